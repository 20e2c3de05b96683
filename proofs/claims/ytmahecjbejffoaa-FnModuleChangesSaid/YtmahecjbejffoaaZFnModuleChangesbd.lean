/- QFnModuleChangesh of the law FnModuleChanges: taken over, declaration by declaration, as far as the law leans on it (the words and the printed functions are the kit's own print). No condition but what each says. -/
import Derived.Test.YtmahecjbejffoaaZFnModuleChangesav
import Derived.Test.YtmahecjbejffoaaZFnModuleChangesaw
import Derived.Test.YtmahecjbejffoaaZFnModuleChangesax
import Derived.Test.YtmahecjbejffoaaZFnModuleChangesay
import Derived.Test.YtmahecjbejffoaaZFnModuleChangesaz
import Derived.Test.YtmahecjbejffoaaZFnModuleChangesba
import Derived.Test.YtmahecjbejffoaaZFnModuleChangesbb
import Derived.Test.YtmahecjbejffoaaZFnModuleChangesbc
namespace Go.Proofs.Ytmahecjbejffoaa.PFnModuleChanges
open Go.RowKit Go.Proofs.YtmahecjbejffoaaW.PrintWords Go.Proofs.YtmahecjbejffoaaW.PrintLast Go.Proofs.YtmahecjbejffoaaW.PrintMore
attribute [local go_sem] max2_int min2_int max_two min_two max_three min_three max_four min_four   -- for this text's walks alone
set_option linter.unusedVariables false
set_option linter.unusedSimpArgs false
mutual
def laws_FnModuleChanges.j0 : Nat → List (S47) → List (S47) → Int → List (S47) → Int → List (S47) → Int → List (S47) → Int → Int → Int → Int → Bool → Option (Bool)
 | 0, _, _, _, _, _, _, _, _, _, _, _, _, _ => none
 | k + 1, x3, x5, x6, x9, x10, x11, x12, x15, x16, x17, x18, x19, x117 => if x117 = true then (some false) else (if x12 = 0 then ((impl_ModulesBelow.f k x9 x10).bind fun bt418 => (if bt418.2 = 0 then ((impl_AreModules.f k x11).bind fun t422 => (if t422 = true then (if (wrap64 ((x11.length : Int) + (bt418.1.length : Int))) = (x9.length : Int) then (laws_FnModuleChanges.j1 k x3 x5 x6 x15 x16 x17 x18 x19) else (some false)) else (some false))) else (some false))) else (laws_FnModuleChanges.j1 k x3 x5 x6 x15 x16 x17 x18 x19))
def laws_FnModuleChanges.j1 : Nat → List (S47) → List (S47) → Int → List (S47) → Int → Int → Int → Int → Option (Bool)
 | 0, _, _, _, _, _, _, _, _ => none
 | k + 1, x3, x5, x6, x15, x16, x17, x18, x19 => if x19 = 0 then ((impl_WayToMaster.f k x15 x16).bind fun bt423 => ((impl_WayToMaster.f k x15 x17).bind fun bt427 => ((impl_MeetingPoint.f k x15 x17 x16).bind fun bt431 => (if bt423.2 = 0 then (if bt427.2 = 0 then ((laws_hasInt.f k bt423.1 x18).bind fun t433 => (if t433 = true then ((laws_hasInt.f k bt427.1 x18).bind fun t434 => (if t434 = true then (if bt431.2 = 0 then (if bt431.1 = x18 then (laws_FnModuleChanges.j2 k x3 x5 x6) else (some false)) else (some false)) else (some false))) else (some false))) else (some false)) else (some false))))) else (laws_FnModuleChanges.j2 k x3 x5 x6)
def laws_FnModuleChanges.j2 : Nat → List (S47) → List (S47) → Int → Option (Bool)
 | 0, _, _, _ => none
 | k + 1, x3, x5, x6 => if x6 = 0 then ((impl_DropModule.f k x5 (x3.length : Int)).bind fun bt435 => (if bt435.2 = 0 then ((laws_likeModules.f k bt435.1 x3).bind fun t439 => (if t439 = true then ((impl_AreModules.f k x5).bind fun t440 => (some t440)) else (some false))) else (some false))) else (some true)
end
def laws_FnModuleChanges.f (k : Nat) (l0 : List Int) : Option (Bool) := (laws_big.f l0).bind fun t380 => (if t380 = true then (some true) else ((spec_DrawAddModule.f k l0).bind fun bt381 => ((impl_AddModule.f k bt381.1 bt381.2.1 bt381.2.2).bind fun bt387 => ((spec_AddModule.f k bt381.1 bt381.2.1 bt381.2.2).bind fun bt391 => ((spec_DrawDropModule.f k l0).bind fun bt395 => ((impl_DropModule.f k bt395.1 bt395.2).bind fun bt399 => ((spec_DropModule.f k bt395.1 bt395.2).bind fun bt403 => ((spec_DrawMeetingPoint.f k l0).bind fun bt407 => ((impl_MeetingPoint.f k bt407.1 bt407.2.1 bt407.2.2).bind fun bt412 => ((spec_MeetingPoint.f k bt407.1 bt407.2.1 bt407.2.2).bind fun bt414 => (if bt387.2 = bt391.2 then ((laws_likeModules.f k bt387.1 bt391.1).bind fun t416 => (if t416 = true then (if bt399.2 = bt403.2 then ((laws_likeModules.f k bt399.1 bt403.1).bind fun t417 => (if t417 = true then (if bt412.2 = bt414.2 then (laws_FnModuleChanges.j0 k bt381.1 bt387.1 bt387.2 bt395.1 bt395.2 bt399.1 bt399.2 bt407.1 bt407.2.1 bt407.2.2 bt412.1 bt412.2 (bt412.1 != bt414.1)) else (laws_FnModuleChanges.j0 k bt381.1 bt387.1 bt387.2 bt395.1 bt395.2 bt399.1 bt399.2 bt407.1 bt407.2.1 bt407.2.2 bt412.1 bt412.2 true)) else (laws_FnModuleChanges.j0 k bt381.1 bt387.1 bt387.2 bt395.1 bt395.2 bt399.1 bt399.2 bt407.1 bt407.2.1 bt407.2.2 bt412.1 bt412.2 true))) else (laws_FnModuleChanges.j0 k bt381.1 bt387.1 bt387.2 bt395.1 bt395.2 bt399.1 bt399.2 bt407.1 bt407.2.1 bt407.2.2 bt412.1 bt412.2 true)) else (laws_FnModuleChanges.j0 k bt381.1 bt387.1 bt387.2 bt395.1 bt395.2 bt399.1 bt399.2 bt407.1 bt407.2.1 bt407.2.2 bt412.1 bt412.2 true))) else (laws_FnModuleChanges.j0 k bt381.1 bt387.1 bt387.2 bt395.1 bt395.2 bt399.1 bt399.2 bt407.1 bt407.2.1 bt407.2.2 bt412.1 bt412.2 true))))))))))))
theorem laws_FnModuleChanges.mono_l : ∀ k, (∀ y0 y1 y2 y3 y4 y5 y6 y7 y8 y9 y10 y11 y12, LeO (laws_FnModuleChanges.j0 k y0 y1 y2 y3 y4 y5 y6 y7 y8 y9 y10 y11 y12) (laws_FnModuleChanges.j0 (k + 1) y0 y1 y2 y3 y4 y5 y6 y7 y8 y9 y10 y11 y12)) ∧ (∀ y0 y1 y2 y3 y4 y5 y6 y7, LeO (laws_FnModuleChanges.j1 k y0 y1 y2 y3 y4 y5 y6 y7) (laws_FnModuleChanges.j1 (k + 1) y0 y1 y2 y3 y4 y5 y6 y7)) ∧ (∀ y0 y1 y2, LeO (laws_FnModuleChanges.j2 k y0 y1 y2) (laws_FnModuleChanges.j2 (k + 1) y0 y1 y2))
 | 0 => ⟨fun _ _ _ _ _ _ _ _ _ _ _ _ _ r h => by simp [laws_FnModuleChanges.j0] at h, fun _ _ _ _ _ _ _ _ r h => by simp [laws_FnModuleChanges.j1] at h, fun _ _ _ r h => by simp [laws_FnModuleChanges.j2] at h⟩
 | k + 1 => by
  obtain ⟨ih0, ih1, ih2⟩ := laws_FnModuleChanges.mono_l k
  refine ⟨?_, ?_, ?_⟩
  ·intro y0 y1 y2 y3 y4 y5 y6 y7 y8 y9 y10 y11 y12
   unfold laws_FnModuleChanges.j0
   repeat' first
   | (with_reducible exact ih0 _ _ _ _ _ _ _ _ _ _ _ _ _)
   | (with_reducible exact ih1 _ _ _ _ _ _ _ _)
   | (with_reducible exact ih2 _ _ _)
   | (with_reducible exact impl_AddModule.mono _ _ _ _)
   | (with_reducible exact impl_AreModules.mono _ _)
   | (with_reducible exact impl_DropModule.mono _ _ _)
   | (with_reducible exact impl_MeetingPoint.mono _ _ _ _)
   | (with_reducible exact impl_ModulesBelow.mono _ _ _)
   | (with_reducible exact impl_WayToMaster.mono _ _ _)
   | (with_reducible exact laws_hasInt.mono _ _ _)
   | (with_reducible exact laws_likeModules.mono _ _ _)
   | (with_reducible exact spec_AddModule.mono _ _ _ _)
   | (with_reducible exact spec_DrawAddModule.mono _ _)
   | (with_reducible exact spec_DrawDropModule.mono _ _)
   | (with_reducible exact spec_DrawMeetingPoint.mono _ _)
   | (with_reducible exact spec_DropModule.mono _ _ _)
   | (with_reducible exact spec_MeetingPoint.mono _ _ _ _)
   | (with_reducible exact LeO.refl _)
   | (with_reducible exact LeO.none _)
   | (with_reducible refine LeO.ite ?_ ?_)
   | (with_reducible refine LeO.bind ?_ (fun _ => ?_))
   | exact ih0 _ _ _ _ _ _ _ _ _ _ _ _ _
   | exact ih1 _ _ _ _ _ _ _ _
   | exact ih2 _ _ _
   | exact impl_AddModule.mono _ _ _ _
   | exact impl_AreModules.mono _ _
   | exact impl_DropModule.mono _ _ _
   | exact impl_MeetingPoint.mono _ _ _ _
   | exact impl_ModulesBelow.mono _ _ _
   | exact impl_WayToMaster.mono _ _ _
   | exact laws_hasInt.mono _ _ _
   | exact laws_likeModules.mono _ _ _
   | exact spec_AddModule.mono _ _ _ _
   | exact spec_DrawAddModule.mono _ _
   | exact spec_DrawDropModule.mono _ _
   | exact spec_DrawMeetingPoint.mono _ _
   | exact spec_DropModule.mono _ _ _
   | exact spec_MeetingPoint.mono _ _ _ _
   | exact LeO.none _
   | refine LeO.ite ?_ ?_
   | refine LeO.bind ?_ (fun _ => ?_)
  ·intro y0 y1 y2 y3 y4 y5 y6 y7
   unfold laws_FnModuleChanges.j1
   repeat' first
   | (with_reducible exact ih0 _ _ _ _ _ _ _ _ _ _ _ _ _)
   | (with_reducible exact ih1 _ _ _ _ _ _ _ _)
   | (with_reducible exact ih2 _ _ _)
   | (with_reducible exact impl_AddModule.mono _ _ _ _)
   | (with_reducible exact impl_AreModules.mono _ _)
   | (with_reducible exact impl_DropModule.mono _ _ _)
   | (with_reducible exact impl_MeetingPoint.mono _ _ _ _)
   | (with_reducible exact impl_ModulesBelow.mono _ _ _)
   | (with_reducible exact impl_WayToMaster.mono _ _ _)
   | (with_reducible exact laws_hasInt.mono _ _ _)
   | (with_reducible exact laws_likeModules.mono _ _ _)
   | (with_reducible exact spec_AddModule.mono _ _ _ _)
   | (with_reducible exact spec_DrawAddModule.mono _ _)
   | (with_reducible exact spec_DrawDropModule.mono _ _)
   | (with_reducible exact spec_DrawMeetingPoint.mono _ _)
   | (with_reducible exact spec_DropModule.mono _ _ _)
   | (with_reducible exact spec_MeetingPoint.mono _ _ _ _)
   | (with_reducible exact LeO.refl _)
   | (with_reducible exact LeO.none _)
   | (with_reducible refine LeO.ite ?_ ?_)
   | (with_reducible refine LeO.bind ?_ (fun _ => ?_))
   | exact ih0 _ _ _ _ _ _ _ _ _ _ _ _ _
   | exact ih1 _ _ _ _ _ _ _ _
   | exact ih2 _ _ _
   | exact impl_AddModule.mono _ _ _ _
   | exact impl_AreModules.mono _ _
   | exact impl_DropModule.mono _ _ _
   | exact impl_MeetingPoint.mono _ _ _ _
   | exact impl_ModulesBelow.mono _ _ _
   | exact impl_WayToMaster.mono _ _ _
   | exact laws_hasInt.mono _ _ _
   | exact laws_likeModules.mono _ _ _
   | exact spec_AddModule.mono _ _ _ _
   | exact spec_DrawAddModule.mono _ _
   | exact spec_DrawDropModule.mono _ _
   | exact spec_DrawMeetingPoint.mono _ _
   | exact spec_DropModule.mono _ _ _
   | exact spec_MeetingPoint.mono _ _ _ _
   | exact LeO.none _
   | refine LeO.ite ?_ ?_
   | refine LeO.bind ?_ (fun _ => ?_)
  ·intro y0 y1 y2
   unfold laws_FnModuleChanges.j2
   repeat' first
   | (with_reducible exact ih0 _ _ _ _ _ _ _ _ _ _ _ _ _)
   | (with_reducible exact ih1 _ _ _ _ _ _ _ _)
   | (with_reducible exact ih2 _ _ _)
   | (with_reducible exact impl_AddModule.mono _ _ _ _)
   | (with_reducible exact impl_AreModules.mono _ _)
   | (with_reducible exact impl_DropModule.mono _ _ _)
   | (with_reducible exact impl_MeetingPoint.mono _ _ _ _)
   | (with_reducible exact impl_ModulesBelow.mono _ _ _)
   | (with_reducible exact impl_WayToMaster.mono _ _ _)
   | (with_reducible exact laws_hasInt.mono _ _ _)
   | (with_reducible exact laws_likeModules.mono _ _ _)
   | (with_reducible exact spec_AddModule.mono _ _ _ _)
   | (with_reducible exact spec_DrawAddModule.mono _ _)
   | (with_reducible exact spec_DrawDropModule.mono _ _)
   | (with_reducible exact spec_DrawMeetingPoint.mono _ _)
   | (with_reducible exact spec_DropModule.mono _ _ _)
   | (with_reducible exact spec_MeetingPoint.mono _ _ _ _)
   | (with_reducible exact LeO.refl _)
   | (with_reducible exact LeO.none _)
   | (with_reducible refine LeO.ite ?_ ?_)
   | (with_reducible refine LeO.bind ?_ (fun _ => ?_))
   | exact ih0 _ _ _ _ _ _ _ _ _ _ _ _ _
   | exact ih1 _ _ _ _ _ _ _ _
   | exact ih2 _ _ _
   | exact impl_AddModule.mono _ _ _ _
   | exact impl_AreModules.mono _ _
   | exact impl_DropModule.mono _ _ _
   | exact impl_MeetingPoint.mono _ _ _ _
   | exact impl_ModulesBelow.mono _ _ _
   | exact impl_WayToMaster.mono _ _ _
   | exact laws_hasInt.mono _ _ _
   | exact laws_likeModules.mono _ _ _
   | exact spec_AddModule.mono _ _ _ _
   | exact spec_DrawAddModule.mono _ _
   | exact spec_DrawDropModule.mono _ _
   | exact spec_DrawMeetingPoint.mono _ _
   | exact spec_DropModule.mono _ _ _
   | exact spec_MeetingPoint.mono _ _ _ _
   | exact LeO.none _
   | refine LeO.ite ?_ ?_
   | refine LeO.bind ?_ (fun _ => ?_)
theorem laws_FnModuleChanges.mono : ∀ a0 k, LeO (laws_FnModuleChanges.f k a0) (laws_FnModuleChanges.f (k + 1) a0) := by
 intro a0 k
 obtain ⟨ih0, ih1, ih2⟩ := laws_FnModuleChanges.mono_l k
 unfold laws_FnModuleChanges.f
 repeat' first
   | (with_reducible exact ih0 _ _ _ _ _ _ _ _ _ _ _ _ _)
   | (with_reducible exact ih1 _ _ _ _ _ _ _ _)
   | (with_reducible exact ih2 _ _ _)
   | (with_reducible exact impl_AddModule.mono _ _ _ _)
   | (with_reducible exact impl_AreModules.mono _ _)
   | (with_reducible exact impl_DropModule.mono _ _ _)
   | (with_reducible exact impl_MeetingPoint.mono _ _ _ _)
   | (with_reducible exact impl_ModulesBelow.mono _ _ _)
   | (with_reducible exact impl_WayToMaster.mono _ _ _)
   | (with_reducible exact laws_hasInt.mono _ _ _)
   | (with_reducible exact laws_likeModules.mono _ _ _)
   | (with_reducible exact spec_AddModule.mono _ _ _ _)
   | (with_reducible exact spec_DrawAddModule.mono _ _)
   | (with_reducible exact spec_DrawDropModule.mono _ _)
   | (with_reducible exact spec_DrawMeetingPoint.mono _ _)
   | (with_reducible exact spec_DropModule.mono _ _ _)
   | (with_reducible exact spec_MeetingPoint.mono _ _ _ _)
   | (with_reducible exact LeO.refl _)
   | (with_reducible exact LeO.none _)
   | (with_reducible refine LeO.ite ?_ ?_)
   | (with_reducible refine LeO.bind ?_ (fun _ => ?_))
   | exact ih0 _ _ _ _ _ _ _ _ _ _ _ _ _
   | exact ih1 _ _ _ _ _ _ _ _
   | exact ih2 _ _ _
   | exact impl_AddModule.mono _ _ _ _
   | exact impl_AreModules.mono _ _
   | exact impl_DropModule.mono _ _ _
   | exact impl_MeetingPoint.mono _ _ _ _
   | exact impl_ModulesBelow.mono _ _ _
   | exact impl_WayToMaster.mono _ _ _
   | exact laws_hasInt.mono _ _ _
   | exact laws_likeModules.mono _ _ _
   | exact spec_AddModule.mono _ _ _ _
   | exact spec_DrawAddModule.mono _ _
   | exact spec_DrawDropModule.mono _ _
   | exact spec_DrawMeetingPoint.mono _ _
   | exact spec_DropModule.mono _ _ _
   | exact spec_MeetingPoint.mono _ _ _ _
   | exact LeO.none _
   | refine LeO.ite ?_ ?_
   | refine LeO.bind ?_ (fun _ => ?_)
theorem laws_FnModuleChanges.j0_true {k : Nat} {a0} {a1} {a2} {a3} {a4} {a5} {a6} {a7} {a8} {a9} {a10} {a11} {r : Bool} (h : laws_FnModuleChanges.j0 k a0 a1 a2 a3 a4 a5 a6 a7 a8 a9 a10 a11 true = some r) : false = r := by
 cases k with
 | zero => simp [laws_FnModuleChanges.j0] at h
 | succ k => simpa [laws_FnModuleChanges.j0] using h
set_option maxHeartbeats 8000000 in
set_option maxRecDepth 100000 in
theorem laws_FnModuleChanges.calls (k : Nat) (A0 : Option Addr) (c0 : Nat) (l0 : List Int) (r : Bool) (w : World) (hr0 : Kd.C (Kd.int .u8) w A0 l0.length l0) (hc0 : l0.length ≤ c0) (h : laws_FnModuleChanges.f k l0 = some r) (hT : r = true) :
  Calls Try.prog 8 #[.slice A0 l0.length c0] w fun e w' => e = .returned (.bool r) ∧ Below w.heap.size w w' := by
 have hu47 := Try.underlying47
 have HR0 := Aside0.mk hr0
 have HC0 := Aside0.mk hc0
 clear hr0 hc0
 have HB := Aside0.mk (Below.refl w.heap.size w)
 have H : ((laws_big.f l0).bind fun t380 => (if t380 = true then (some true) else ((spec_DrawAddModule.f k l0).bind fun bt381 => ((impl_AddModule.f k bt381.1 bt381.2.1 bt381.2.2).bind fun bt387 => ((spec_AddModule.f k bt381.1 bt381.2.1 bt381.2.2).bind fun bt391 => ((spec_DrawDropModule.f k l0).bind fun bt395 => ((impl_DropModule.f k bt395.1 bt395.2).bind fun bt399 => ((spec_DropModule.f k bt395.1 bt395.2).bind fun bt403 => ((spec_DrawMeetingPoint.f k l0).bind fun bt407 => ((impl_MeetingPoint.f k bt407.1 bt407.2.1 bt407.2.2).bind fun bt412 => ((spec_MeetingPoint.f k bt407.1 bt407.2.1 bt407.2.2).bind fun bt414 => (if bt387.2 = bt391.2 then ((laws_likeModules.f k bt387.1 bt391.1).bind fun t416 => (if t416 = true then (if bt399.2 = bt403.2 then ((laws_likeModules.f k bt399.1 bt403.1).bind fun t417 => (if t417 = true then (if bt412.2 = bt414.2 then (laws_FnModuleChanges.j0 k bt381.1 bt387.1 bt387.2 bt395.1 bt395.2 bt399.1 bt399.2 bt407.1 bt407.2.1 bt407.2.2 bt412.1 bt412.2 (bt412.1 != bt414.1)) else (laws_FnModuleChanges.j0 k bt381.1 bt387.1 bt387.2 bt395.1 bt395.2 bt399.1 bt399.2 bt407.1 bt407.2.1 bt407.2.2 bt412.1 bt412.2 true)) else (laws_FnModuleChanges.j0 k bt381.1 bt387.1 bt387.2 bt395.1 bt395.2 bt399.1 bt399.2 bt407.1 bt407.2.1 bt407.2.2 bt412.1 bt412.2 true))) else (laws_FnModuleChanges.j0 k bt381.1 bt387.1 bt387.2 bt395.1 bt395.2 bt399.1 bt399.2 bt407.1 bt407.2.1 bt407.2.2 bt412.1 bt412.2 true)) else (laws_FnModuleChanges.j0 k bt381.1 bt387.1 bt387.2 bt395.1 bt395.2 bt399.1 bt399.2 bt407.1 bt407.2.1 bt407.2.2 bt412.1 bt412.2 true))) else (laws_FnModuleChanges.j0 k bt381.1 bt387.1 bt387.2 bt395.1 bt395.2 bt399.1 bt399.2 bt407.1 bt407.2.1 bt407.2.2 bt412.1 bt412.2 true))))))))))))) = some r := h
 clear h
 replace H := Option.bind_eq_some_iff.mp H
 obtain ⟨t380, A20, H⟩ := H
 replace H : (if t380 = true then (some true) else ((spec_DrawAddModule.f k l0).bind fun bt381 => ((impl_AddModule.f k bt381.1 bt381.2.1 bt381.2.2).bind fun bt387 => ((spec_AddModule.f k bt381.1 bt381.2.1 bt381.2.2).bind fun bt391 => ((spec_DrawDropModule.f k l0).bind fun bt395 => ((impl_DropModule.f k bt395.1 bt395.2).bind fun bt399 => ((spec_DropModule.f k bt395.1 bt395.2).bind fun bt403 => ((spec_DrawMeetingPoint.f k l0).bind fun bt407 => ((impl_MeetingPoint.f k bt407.1 bt407.2.1 bt407.2.2).bind fun bt412 => ((spec_MeetingPoint.f k bt407.1 bt407.2.1 bt407.2.2).bind fun bt414 => (if bt387.2 = bt391.2 then ((laws_likeModules.f k bt387.1 bt391.1).bind fun t416 => (if t416 = true then (if bt399.2 = bt403.2 then ((laws_likeModules.f k bt399.1 bt403.1).bind fun t417 => (if t417 = true then (if bt412.2 = bt414.2 then (laws_FnModuleChanges.j0 k bt381.1 bt387.1 bt387.2 bt395.1 bt395.2 bt399.1 bt399.2 bt407.1 bt407.2.1 bt407.2.2 bt412.1 bt412.2 (bt412.1 != bt414.1)) else (laws_FnModuleChanges.j0 k bt381.1 bt387.1 bt387.2 bt395.1 bt395.2 bt399.1 bt399.2 bt407.1 bt407.2.1 bt407.2.2 bt412.1 bt412.2 true)) else (laws_FnModuleChanges.j0 k bt381.1 bt387.1 bt387.2 bt395.1 bt395.2 bt399.1 bt399.2 bt407.1 bt407.2.1 bt407.2.2 bt412.1 bt412.2 true))) else (laws_FnModuleChanges.j0 k bt381.1 bt387.1 bt387.2 bt395.1 bt395.2 bt399.1 bt399.2 bt407.1 bt407.2.1 bt407.2.2 bt412.1 bt412.2 true)) else (laws_FnModuleChanges.j0 k bt381.1 bt387.1 bt387.2 bt395.1 bt395.2 bt399.1 bt399.2 bt407.1 bt407.2.1 bt407.2.2 bt412.1 bt412.2 true))) else (laws_FnModuleChanges.j0 k bt381.1 bt387.1 bt387.2 bt395.1 bt395.2 bt399.1 bt399.2 bt407.1 bt407.2.1 bt407.2.2 bt412.1 bt412.2 true)))))))))))) = some r := H
 have A2 := Aside0.mk A20
 clear A20
 by_cases c3 : t380 = true
 ·subst c3
  have H1 : (some true) = some r := by rw [if_pos rfl] at H; exact H
  clear H
  have H := H1
  clear H1
  obtain rfl := Option.some.inj H
  go_enter Try.func8, Try.ntmps8
  go_wp2_with (first | ((with_reducible refine gate_callee (f := 15) rfl ?_); refine goesL_ (some 33) rfl rfl Try.func15 (by kernel_rfl) rfl #[.slice A0 l0.length c0] rfl (by (try simp only [List.map_toArray, List.map_cons, List.map_nil]); first | done | rfl | (simp only [List.length_drop, List.length_take]; rfl)) ?_; (with_reducible refine (laws_big.calls _ _ l0 true _ ?side1 ?side2 A2.out).mono ?_); (case side1 => repeat (first | exact HR0.out | (with_reducible refine Kd.C_alloc ?_ _) | (with_reducible refine Kd.C_drewN ?_ _) | (with_reducible refine Kd.C_drew ?_))); (case side2 => exact HC0.out); rintro e w' ⟨rfl, ⟨nd, rfl⟩⟩; refine ⟨_, rfl, ?_⟩))
  go_ret
  exact ⟨by first | rfl | (simp [errW_none, errW_some] <;> rfl) | (simp [*, errW_none, errW_some] <;> rfl), by repeat (first | (with_reducible first | exact HB.out | apply below_alloc | apply pw_below_drewN | apply below_drew1) | exact HB.out)⟩
 ·replace c3 := Bool.eq_false_iff.mpr c3
  subst c3
  have H1 : ((spec_DrawAddModule.f k l0).bind fun bt381 => ((impl_AddModule.f k bt381.1 bt381.2.1 bt381.2.2).bind fun bt387 => ((spec_AddModule.f k bt381.1 bt381.2.1 bt381.2.2).bind fun bt391 => ((spec_DrawDropModule.f k l0).bind fun bt395 => ((impl_DropModule.f k bt395.1 bt395.2).bind fun bt399 => ((spec_DropModule.f k bt395.1 bt395.2).bind fun bt403 => ((spec_DrawMeetingPoint.f k l0).bind fun bt407 => ((impl_MeetingPoint.f k bt407.1 bt407.2.1 bt407.2.2).bind fun bt412 => ((spec_MeetingPoint.f k bt407.1 bt407.2.1 bt407.2.2).bind fun bt414 => (if bt387.2 = bt391.2 then ((laws_likeModules.f k bt387.1 bt391.1).bind fun t416 => (if t416 = true then (if bt399.2 = bt403.2 then ((laws_likeModules.f k bt399.1 bt403.1).bind fun t417 => (if t417 = true then (if bt412.2 = bt414.2 then (laws_FnModuleChanges.j0 k bt381.1 bt387.1 bt387.2 bt395.1 bt395.2 bt399.1 bt399.2 bt407.1 bt407.2.1 bt407.2.2 bt412.1 bt412.2 (bt412.1 != bt414.1)) else (laws_FnModuleChanges.j0 k bt381.1 bt387.1 bt387.2 bt395.1 bt395.2 bt399.1 bt399.2 bt407.1 bt407.2.1 bt407.2.2 bt412.1 bt412.2 true)) else (laws_FnModuleChanges.j0 k bt381.1 bt387.1 bt387.2 bt395.1 bt395.2 bt399.1 bt399.2 bt407.1 bt407.2.1 bt407.2.2 bt412.1 bt412.2 true))) else (laws_FnModuleChanges.j0 k bt381.1 bt387.1 bt387.2 bt395.1 bt395.2 bt399.1 bt399.2 bt407.1 bt407.2.1 bt407.2.2 bt412.1 bt412.2 true)) else (laws_FnModuleChanges.j0 k bt381.1 bt387.1 bt387.2 bt395.1 bt395.2 bt399.1 bt399.2 bt407.1 bt407.2.1 bt407.2.2 bt412.1 bt412.2 true))) else (laws_FnModuleChanges.j0 k bt381.1 bt387.1 bt387.2 bt395.1 bt395.2 bt399.1 bt399.2 bt407.1 bt407.2.1 bt407.2.2 bt412.1 bt412.2 true))))))))))) = some r := by rw [if_neg (show ¬ (false = true) by decide)] at H; exact H
  clear H
  have H := H1
  clear H1
  replace H := Option.bind_eq_some_iff.mp H
  obtain ⟨⟨t381, t384, t385⟩, A40, H⟩ := H
  replace H : ((impl_AddModule.f k t381 t384 t385).bind fun bt387 => ((spec_AddModule.f k t381 t384 t385).bind fun bt391 => ((spec_DrawDropModule.f k l0).bind fun bt395 => ((impl_DropModule.f k bt395.1 bt395.2).bind fun bt399 => ((spec_DropModule.f k bt395.1 bt395.2).bind fun bt403 => ((spec_DrawMeetingPoint.f k l0).bind fun bt407 => ((impl_MeetingPoint.f k bt407.1 bt407.2.1 bt407.2.2).bind fun bt412 => ((spec_MeetingPoint.f k bt407.1 bt407.2.1 bt407.2.2).bind fun bt414 => (if bt387.2 = bt391.2 then ((laws_likeModules.f k bt387.1 bt391.1).bind fun t416 => (if t416 = true then (if bt399.2 = bt403.2 then ((laws_likeModules.f k bt399.1 bt403.1).bind fun t417 => (if t417 = true then (if bt412.2 = bt414.2 then (laws_FnModuleChanges.j0 k t381 bt387.1 bt387.2 bt395.1 bt395.2 bt399.1 bt399.2 bt407.1 bt407.2.1 bt407.2.2 bt412.1 bt412.2 (bt412.1 != bt414.1)) else (laws_FnModuleChanges.j0 k t381 bt387.1 bt387.2 bt395.1 bt395.2 bt399.1 bt399.2 bt407.1 bt407.2.1 bt407.2.2 bt412.1 bt412.2 true)) else (laws_FnModuleChanges.j0 k t381 bt387.1 bt387.2 bt395.1 bt395.2 bt399.1 bt399.2 bt407.1 bt407.2.1 bt407.2.2 bt412.1 bt412.2 true))) else (laws_FnModuleChanges.j0 k t381 bt387.1 bt387.2 bt395.1 bt395.2 bt399.1 bt399.2 bt407.1 bt407.2.1 bt407.2.2 bt412.1 bt412.2 true)) else (laws_FnModuleChanges.j0 k t381 bt387.1 bt387.2 bt395.1 bt395.2 bt399.1 bt399.2 bt407.1 bt407.2.1 bt407.2.2 bt412.1 bt412.2 true))) else (laws_FnModuleChanges.j0 k t381 bt387.1 bt387.2 bt395.1 bt395.2 bt399.1 bt399.2 bt407.1 bt407.2.1 bt407.2.2 bt412.1 bt412.2 true)))))))))) = some r := H
  have A4 := Aside0.mk A40
  clear A40
  replace H := Option.bind_eq_some_iff.mp H
  obtain ⟨⟨t387, t390⟩, A50, H⟩ := H
  replace H : ((spec_AddModule.f k t381 t384 t385).bind fun bt391 => ((spec_DrawDropModule.f k l0).bind fun bt395 => ((impl_DropModule.f k bt395.1 bt395.2).bind fun bt399 => ((spec_DropModule.f k bt395.1 bt395.2).bind fun bt403 => ((spec_DrawMeetingPoint.f k l0).bind fun bt407 => ((impl_MeetingPoint.f k bt407.1 bt407.2.1 bt407.2.2).bind fun bt412 => ((spec_MeetingPoint.f k bt407.1 bt407.2.1 bt407.2.2).bind fun bt414 => (if t390 = bt391.2 then ((laws_likeModules.f k t387 bt391.1).bind fun t416 => (if t416 = true then (if bt399.2 = bt403.2 then ((laws_likeModules.f k bt399.1 bt403.1).bind fun t417 => (if t417 = true then (if bt412.2 = bt414.2 then (laws_FnModuleChanges.j0 k t381 t387 t390 bt395.1 bt395.2 bt399.1 bt399.2 bt407.1 bt407.2.1 bt407.2.2 bt412.1 bt412.2 (bt412.1 != bt414.1)) else (laws_FnModuleChanges.j0 k t381 t387 t390 bt395.1 bt395.2 bt399.1 bt399.2 bt407.1 bt407.2.1 bt407.2.2 bt412.1 bt412.2 true)) else (laws_FnModuleChanges.j0 k t381 t387 t390 bt395.1 bt395.2 bt399.1 bt399.2 bt407.1 bt407.2.1 bt407.2.2 bt412.1 bt412.2 true))) else (laws_FnModuleChanges.j0 k t381 t387 t390 bt395.1 bt395.2 bt399.1 bt399.2 bt407.1 bt407.2.1 bt407.2.2 bt412.1 bt412.2 true)) else (laws_FnModuleChanges.j0 k t381 t387 t390 bt395.1 bt395.2 bt399.1 bt399.2 bt407.1 bt407.2.1 bt407.2.2 bt412.1 bt412.2 true))) else (laws_FnModuleChanges.j0 k t381 t387 t390 bt395.1 bt395.2 bt399.1 bt399.2 bt407.1 bt407.2.1 bt407.2.2 bt412.1 bt412.2 true))))))))) = some r := H
  have A5 := Aside0.mk A50
  clear A50
  replace H := Option.bind_eq_some_iff.mp H
  obtain ⟨⟨t391, t394⟩, A60, H⟩ := H
  replace H : ((spec_DrawDropModule.f k l0).bind fun bt395 => ((impl_DropModule.f k bt395.1 bt395.2).bind fun bt399 => ((spec_DropModule.f k bt395.1 bt395.2).bind fun bt403 => ((spec_DrawMeetingPoint.f k l0).bind fun bt407 => ((impl_MeetingPoint.f k bt407.1 bt407.2.1 bt407.2.2).bind fun bt412 => ((spec_MeetingPoint.f k bt407.1 bt407.2.1 bt407.2.2).bind fun bt414 => (if t390 = t394 then ((laws_likeModules.f k t387 t391).bind fun t416 => (if t416 = true then (if bt399.2 = bt403.2 then ((laws_likeModules.f k bt399.1 bt403.1).bind fun t417 => (if t417 = true then (if bt412.2 = bt414.2 then (laws_FnModuleChanges.j0 k t381 t387 t390 bt395.1 bt395.2 bt399.1 bt399.2 bt407.1 bt407.2.1 bt407.2.2 bt412.1 bt412.2 (bt412.1 != bt414.1)) else (laws_FnModuleChanges.j0 k t381 t387 t390 bt395.1 bt395.2 bt399.1 bt399.2 bt407.1 bt407.2.1 bt407.2.2 bt412.1 bt412.2 true)) else (laws_FnModuleChanges.j0 k t381 t387 t390 bt395.1 bt395.2 bt399.1 bt399.2 bt407.1 bt407.2.1 bt407.2.2 bt412.1 bt412.2 true))) else (laws_FnModuleChanges.j0 k t381 t387 t390 bt395.1 bt395.2 bt399.1 bt399.2 bt407.1 bt407.2.1 bt407.2.2 bt412.1 bt412.2 true)) else (laws_FnModuleChanges.j0 k t381 t387 t390 bt395.1 bt395.2 bt399.1 bt399.2 bt407.1 bt407.2.1 bt407.2.2 bt412.1 bt412.2 true))) else (laws_FnModuleChanges.j0 k t381 t387 t390 bt395.1 bt395.2 bt399.1 bt399.2 bt407.1 bt407.2.1 bt407.2.2 bt412.1 bt412.2 true)))))))) = some r := H
  have A6 := Aside0.mk A60
  clear A60
  replace H := Option.bind_eq_some_iff.mp H
  obtain ⟨⟨t395, t396⟩, A70, H⟩ := H
  replace H : ((impl_DropModule.f k t395 t396).bind fun bt399 => ((spec_DropModule.f k t395 t396).bind fun bt403 => ((spec_DrawMeetingPoint.f k l0).bind fun bt407 => ((impl_MeetingPoint.f k bt407.1 bt407.2.1 bt407.2.2).bind fun bt412 => ((spec_MeetingPoint.f k bt407.1 bt407.2.1 bt407.2.2).bind fun bt414 => (if t390 = t394 then ((laws_likeModules.f k t387 t391).bind fun t416 => (if t416 = true then (if bt399.2 = bt403.2 then ((laws_likeModules.f k bt399.1 bt403.1).bind fun t417 => (if t417 = true then (if bt412.2 = bt414.2 then (laws_FnModuleChanges.j0 k t381 t387 t390 t395 t396 bt399.1 bt399.2 bt407.1 bt407.2.1 bt407.2.2 bt412.1 bt412.2 (bt412.1 != bt414.1)) else (laws_FnModuleChanges.j0 k t381 t387 t390 t395 t396 bt399.1 bt399.2 bt407.1 bt407.2.1 bt407.2.2 bt412.1 bt412.2 true)) else (laws_FnModuleChanges.j0 k t381 t387 t390 t395 t396 bt399.1 bt399.2 bt407.1 bt407.2.1 bt407.2.2 bt412.1 bt412.2 true))) else (laws_FnModuleChanges.j0 k t381 t387 t390 t395 t396 bt399.1 bt399.2 bt407.1 bt407.2.1 bt407.2.2 bt412.1 bt412.2 true)) else (laws_FnModuleChanges.j0 k t381 t387 t390 t395 t396 bt399.1 bt399.2 bt407.1 bt407.2.1 bt407.2.2 bt412.1 bt412.2 true))) else (laws_FnModuleChanges.j0 k t381 t387 t390 t395 t396 bt399.1 bt399.2 bt407.1 bt407.2.1 bt407.2.2 bt412.1 bt412.2 true))))))) = some r := H
  have A7 := Aside0.mk A70
  clear A70
  replace H := Option.bind_eq_some_iff.mp H
  obtain ⟨⟨t399, t400⟩, A80, H⟩ := H
  replace H : ((spec_DropModule.f k t395 t396).bind fun bt403 => ((spec_DrawMeetingPoint.f k l0).bind fun bt407 => ((impl_MeetingPoint.f k bt407.1 bt407.2.1 bt407.2.2).bind fun bt412 => ((spec_MeetingPoint.f k bt407.1 bt407.2.1 bt407.2.2).bind fun bt414 => (if t390 = t394 then ((laws_likeModules.f k t387 t391).bind fun t416 => (if t416 = true then (if t400 = bt403.2 then ((laws_likeModules.f k t399 bt403.1).bind fun t417 => (if t417 = true then (if bt412.2 = bt414.2 then (laws_FnModuleChanges.j0 k t381 t387 t390 t395 t396 t399 t400 bt407.1 bt407.2.1 bt407.2.2 bt412.1 bt412.2 (bt412.1 != bt414.1)) else (laws_FnModuleChanges.j0 k t381 t387 t390 t395 t396 t399 t400 bt407.1 bt407.2.1 bt407.2.2 bt412.1 bt412.2 true)) else (laws_FnModuleChanges.j0 k t381 t387 t390 t395 t396 t399 t400 bt407.1 bt407.2.1 bt407.2.2 bt412.1 bt412.2 true))) else (laws_FnModuleChanges.j0 k t381 t387 t390 t395 t396 t399 t400 bt407.1 bt407.2.1 bt407.2.2 bt412.1 bt412.2 true)) else (laws_FnModuleChanges.j0 k t381 t387 t390 t395 t396 t399 t400 bt407.1 bt407.2.1 bt407.2.2 bt412.1 bt412.2 true))) else (laws_FnModuleChanges.j0 k t381 t387 t390 t395 t396 t399 t400 bt407.1 bt407.2.1 bt407.2.2 bt412.1 bt412.2 true)))))) = some r := H
  have A8 := Aside0.mk A80
  clear A80
  replace H := Option.bind_eq_some_iff.mp H
  obtain ⟨⟨t403, t404⟩, A90, H⟩ := H
  replace H : ((spec_DrawMeetingPoint.f k l0).bind fun bt407 => ((impl_MeetingPoint.f k bt407.1 bt407.2.1 bt407.2.2).bind fun bt412 => ((spec_MeetingPoint.f k bt407.1 bt407.2.1 bt407.2.2).bind fun bt414 => (if t390 = t394 then ((laws_likeModules.f k t387 t391).bind fun t416 => (if t416 = true then (if t400 = t404 then ((laws_likeModules.f k t399 t403).bind fun t417 => (if t417 = true then (if bt412.2 = bt414.2 then (laws_FnModuleChanges.j0 k t381 t387 t390 t395 t396 t399 t400 bt407.1 bt407.2.1 bt407.2.2 bt412.1 bt412.2 (bt412.1 != bt414.1)) else (laws_FnModuleChanges.j0 k t381 t387 t390 t395 t396 t399 t400 bt407.1 bt407.2.1 bt407.2.2 bt412.1 bt412.2 true)) else (laws_FnModuleChanges.j0 k t381 t387 t390 t395 t396 t399 t400 bt407.1 bt407.2.1 bt407.2.2 bt412.1 bt412.2 true))) else (laws_FnModuleChanges.j0 k t381 t387 t390 t395 t396 t399 t400 bt407.1 bt407.2.1 bt407.2.2 bt412.1 bt412.2 true)) else (laws_FnModuleChanges.j0 k t381 t387 t390 t395 t396 t399 t400 bt407.1 bt407.2.1 bt407.2.2 bt412.1 bt412.2 true))) else (laws_FnModuleChanges.j0 k t381 t387 t390 t395 t396 t399 t400 bt407.1 bt407.2.1 bt407.2.2 bt412.1 bt412.2 true))))) = some r := H
  have A9 := Aside0.mk A90
  clear A90
  replace H := Option.bind_eq_some_iff.mp H
  obtain ⟨⟨t407, t408, t409⟩, A100, H⟩ := H
  replace H : ((impl_MeetingPoint.f k t407 t408 t409).bind fun bt412 => ((spec_MeetingPoint.f k t407 t408 t409).bind fun bt414 => (if t390 = t394 then ((laws_likeModules.f k t387 t391).bind fun t416 => (if t416 = true then (if t400 = t404 then ((laws_likeModules.f k t399 t403).bind fun t417 => (if t417 = true then (if bt412.2 = bt414.2 then (laws_FnModuleChanges.j0 k t381 t387 t390 t395 t396 t399 t400 t407 t408 t409 bt412.1 bt412.2 (bt412.1 != bt414.1)) else (laws_FnModuleChanges.j0 k t381 t387 t390 t395 t396 t399 t400 t407 t408 t409 bt412.1 bt412.2 true)) else (laws_FnModuleChanges.j0 k t381 t387 t390 t395 t396 t399 t400 t407 t408 t409 bt412.1 bt412.2 true))) else (laws_FnModuleChanges.j0 k t381 t387 t390 t395 t396 t399 t400 t407 t408 t409 bt412.1 bt412.2 true)) else (laws_FnModuleChanges.j0 k t381 t387 t390 t395 t396 t399 t400 t407 t408 t409 bt412.1 bt412.2 true))) else (laws_FnModuleChanges.j0 k t381 t387 t390 t395 t396 t399 t400 t407 t408 t409 bt412.1 bt412.2 true)))) = some r := H
  have A10 := Aside0.mk A100
  clear A100
  replace H := Option.bind_eq_some_iff.mp H
  obtain ⟨⟨t412, t413⟩, A110, H⟩ := H
  replace H : ((spec_MeetingPoint.f k t407 t408 t409).bind fun bt414 => (if t390 = t394 then ((laws_likeModules.f k t387 t391).bind fun t416 => (if t416 = true then (if t400 = t404 then ((laws_likeModules.f k t399 t403).bind fun t417 => (if t417 = true then (if t413 = bt414.2 then (laws_FnModuleChanges.j0 k t381 t387 t390 t395 t396 t399 t400 t407 t408 t409 t412 t413 (t412 != bt414.1)) else (laws_FnModuleChanges.j0 k t381 t387 t390 t395 t396 t399 t400 t407 t408 t409 t412 t413 true)) else (laws_FnModuleChanges.j0 k t381 t387 t390 t395 t396 t399 t400 t407 t408 t409 t412 t413 true))) else (laws_FnModuleChanges.j0 k t381 t387 t390 t395 t396 t399 t400 t407 t408 t409 t412 t413 true)) else (laws_FnModuleChanges.j0 k t381 t387 t390 t395 t396 t399 t400 t407 t408 t409 t412 t413 true))) else (laws_FnModuleChanges.j0 k t381 t387 t390 t395 t396 t399 t400 t407 t408 t409 t412 t413 true))) = some r := H
  have A11 := Aside0.mk A110
  clear A110
  replace H := Option.bind_eq_some_iff.mp H
  obtain ⟨⟨t414, t415⟩, A120, H⟩ := H
  replace H : (if t390 = t394 then ((laws_likeModules.f k t387 t391).bind fun t416 => (if t416 = true then (if t400 = t404 then ((laws_likeModules.f k t399 t403).bind fun t417 => (if t417 = true then (if t413 = t415 then (laws_FnModuleChanges.j0 k t381 t387 t390 t395 t396 t399 t400 t407 t408 t409 t412 t413 (t412 != t414)) else (laws_FnModuleChanges.j0 k t381 t387 t390 t395 t396 t399 t400 t407 t408 t409 t412 t413 true)) else (laws_FnModuleChanges.j0 k t381 t387 t390 t395 t396 t399 t400 t407 t408 t409 t412 t413 true))) else (laws_FnModuleChanges.j0 k t381 t387 t390 t395 t396 t399 t400 t407 t408 t409 t412 t413 true)) else (laws_FnModuleChanges.j0 k t381 t387 t390 t395 t396 t399 t400 t407 t408 t409 t412 t413 true))) else (laws_FnModuleChanges.j0 k t381 t387 t390 t395 t396 t399 t400 t407 t408 t409 t412 t413 true)) = some r := H
  have A12 := Aside0.mk A120
  clear A120
  have HC13 := Aside0.mk H
  clear H
  go_enter Try.func8, Try.ntmps8
  go_upto_region 12 with (first | ((with_reducible refine gate_callee (f := 15) rfl ?_); refine goesL_ (some 33) rfl rfl Try.func15 (by kernel_rfl) rfl #[.slice A0 l0.length c0] rfl (by (try simp only [List.map_toArray, List.map_cons, List.map_nil]); first | done | rfl | (simp only [List.length_drop, List.length_take]; rfl)) ?_; (with_reducible refine (laws_big.calls _ _ l0 false _ ?side1 ?side2 A2.out).mono ?_); (case side1 => repeat (first | exact HR0.out | (with_reducible refine Kd.C_alloc ?_ _) | (with_reducible refine Kd.C_drewN ?_ _) | (with_reducible refine Kd.C_drew ?_))); (case side2 => exact HC0.out); rintro e w' ⟨rfl, ⟨nd, rfl⟩⟩; refine ⟨_, rfl, ?_⟩) | ((with_reducible refine gate_callee (f := 62) rfl ?_); refine goesL_ (some 36) rfl rfl Try.func62 (by kernel_rfl) rfl #[.slice A0 l0.length c0] rfl (by (try simp only [List.map_toArray, List.map_cons, List.map_nil]); first | done | rfl | (simp only [List.length_drop, List.length_take]; rfl)) ?_; (with_reducible refine (spec_DrawAddModule.calls k _ _ l0 t381 t384 t385 _ ?side1 ?side2 A4.out).mono ?_); (case side1 => repeat (first | exact HR0.out | (with_reducible refine Kd.C_alloc ?_ _) | (with_reducible refine Kd.C_drewN ?_ _) | (with_reducible refine Kd.C_drew ?_))); (case side2 => exact HC0.out); rintro e w14 ⟨v382, rfl, ho0, hb⟩; refine ⟨_, rfl, ?_⟩; have n0_ := Aside0.mk (Kd.R_lower ho0 (below_size (by repeat (first | (with_reducible first | exact HB.out | apply below_alloc | apply pw_below_drewN | apply below_drew1) | exact HB.out)))); have n1_ := Aside0.mk (below_step (by repeat (first | (with_reducible first | exact HB.out | apply below_alloc | apply pw_below_drewN | apply below_drew1) | exact HB.out)) hb); clear HB; have HO383 := n0_; have HB := n1_; clear n0_ n1_; (try clear hb); (try clear hb2); (try clear hk); (try clear hi); (try clear ho0)) | ((with_reducible refine gate_dst (N := 4) rfl ?_); (try (refine gate_guard (by rfl) ?_; dsimp only)); refine box_event ?hg (N := 4) ?hd (cs := #[.int .i64 0, .int .i64 0]) (t := 47) ?hr ?_; (case hd => rfl); (case hg => rfl); (case hr => first | (go_simp; done) | (go_simp; rfl)); intro gb386 hg w15 hbox hb; have n0_ := Aside0.mk (Kd.R_below (Kd.R_elderB (by (with_reducible repeat (first | apply Kd.R_alloc | apply Kd.R_drewN | apply Kd.R_drew)); exact HO383.out) gb386 (Nat.le_of_eq hg.symm)) hb); have n1_ := Aside0.mk (below_step (by repeat (first | (with_reducible first | exact HB.out | apply below_alloc | apply pw_below_drewN | apply below_drew1) | exact HB.out)) hb); have n2_ := Aside0.mk (hbox); have n3_ := Aside0.mk ((by rw [hg]; exact (below_size (by repeat (first | (with_reducible first | exact HB.out | apply below_alloc | apply pw_below_drewN | apply below_drew1) | exact HB.out))) : w.heap.size ≤ gb386)); have n4_ := Aside0.mk ((by rw [hg]; exact (below_size (by repeat (first | (with_reducible first | exact HB.out | apply below_alloc | apply pw_below_drewN | apply below_drew1) | exact HB.out))) : w.heap.size ≤ gb386)); clear HO383; clear HB; have HO383 := n0_; have HB := n1_; have BK386 := n2_; have GW386 := n3_; have GE386 := n4_; clear n0_ n1_ n2_ n3_ n4_; clear hb hbox hg; have hcz16_0 : w15.cell? ⟨gb386, 0, none⟩ = some (.int .i64 0) := (blk_cell BK386.out 0).trans rfl; have hcz16_1 : w15.cell? ⟨gb386, 1, none⟩ = some (.int .i64 0) := (blk_cell BK386.out 1).trans rfl; have hfz16_0 := blk_frozen BK386.out 0; have hfz16_1 := blk_frozen BK386.out 1; obtain ⟨Ao17, co17, eo17⟩ := Kd.R_slice HO383.out; subst eo17) | ((with_reducible refine gate_callee (f := 63) rfl ?_); refine goesL_ (some 42) rfl rfl Try.func63 (by kernel_rfl) rfl #[.slice Ao17 t381.length co17, .agg #[.int .i64 t384, .int .i64 t385]] rfl (by (try simp only [List.map_toArray, List.map_cons, List.map_nil]); first | done | rfl | (simp only [List.length_drop, List.length_take]; rfl)) ?_; (with_reducible refine (impl_AddModule.calls k _ _ t381 t384 t385 t387 t390 _ ?side1 ?side2 A5.out).mono ?_); (case side1 => refine (Kd.R_reads' (e := 47) (base := w.heap.size) (ok := fun k_ => (True ∧ k_ ≠ gb386)) (n := t381.length) (c := co17) ?_).2.2; exact (by (with_reducible repeat (first | apply Kd.R_alloc | apply Kd.R_drewN | apply Kd.R_drew)); exact (Kd.R_mono (Kd.R_far (p := ⟨gb386, 1, none⟩) (Kd.R_far (p := ⟨gb386, 0, none⟩) (Kd.R_mono HO383.out (fun k_ hk => (⟨hk, hk.2⟩ : _ ∧ k_ ≠ gb386))) (fun _ hk => hk.2) (.int .i64 t384)) (fun _ hk => hk.2) (.int .i64 t385)) (fun _ h_ => h_.1)))); (case side2 => exact (Kd.R_reads' HO383.out).2.1); rintro e w18 ⟨v388, rfl, ho0, hb⟩; refine ⟨_, rfl, ?_⟩; have n0_ := Aside0.mk (Kd.R_elder' (by (with_reducible repeat (first | apply Kd.R_alloc | apply Kd.R_drewN | apply Kd.R_drew)); exact (Kd.R_mono (Kd.R_far (p := ⟨gb386, 1, none⟩) (Kd.R_far (p := ⟨gb386, 0, none⟩) (Kd.R_mono HO383.out (fun k_ hk => (⟨hk, hk.2⟩ : _ ∧ k_ ≠ gb386))) (fun _ hk => hk.2) (.int .i64 t384)) (fun _ hk => hk.2) (.int .i64 t385)) (fun _ h_ => h_.1))) (Kd.R_base ho0) hb); have n1_ := Aside0.mk (Kd.R_lower (Kd.R_newB (Kd.R_new' ho0 (Kd.R_lt (by (with_reducible repeat (first | apply Kd.R_alloc | apply Kd.R_drewN | apply Kd.R_drew)); exact (Kd.R_mono (Kd.R_far (p := ⟨gb386, 1, none⟩) (Kd.R_far (p := ⟨gb386, 0, none⟩) (Kd.R_mono HO383.out (fun k_ hk => (⟨hk, hk.2⟩ : _ ∧ k_ ≠ gb386))) (fun _ hk => hk.2) (.int .i64 t384)) (fun _ hk => hk.2) (.int .i64 t385)) (fun _ h_ => h_.1))))) (g := gb386) (o := .cells #[.int .i64 t384, .int .i64 t385] 47 (0, 0)) (by (with_reducible repeat (first | refine blk_drewN ?_ _ | refine blk_drew ?_ | refine blk_alloc ?_ _)); refine blk_put (cs := #[.int .i64 t384, .int .i64 0]) ?_ 1 _ rfl; (with_reducible repeat (first | refine blk_drewN ?_ _ | refine blk_drew ?_ | refine blk_alloc ?_ _)); refine blk_put (cs := #[.int .i64 0, .int .i64 0]) ?_ 0 _ rfl; (with_reducible repeat (first | refine blk_drewN ?_ _ | refine blk_drew ?_ | refine blk_alloc ?_ _)); exact BK386.out)) (below_size (by repeat (first | (with_reducible first | exact HB.out | apply below_alloc | apply pw_below_drewN | apply below_drew1 | refine below_set ?_ GE386.out) | exact HB.out)))); have n2_ := Aside0.mk (blk_below (g := gb386) (o := .cells #[.int .i64 t384, .int .i64 t385] 47 (0, 0)) (by (with_reducible repeat (first | refine blk_drewN ?_ _ | refine blk_drew ?_ | refine blk_alloc ?_ _)); refine blk_put (cs := #[.int .i64 t384, .int .i64 0]) ?_ 1 _ rfl; (with_reducible repeat (first | refine blk_drewN ?_ _ | refine blk_drew ?_ | refine blk_alloc ?_ _)); refine blk_put (cs := #[.int .i64 0, .int .i64 0]) ?_ 0 _ rfl; (with_reducible repeat (first | refine blk_drewN ?_ _ | refine blk_drew ?_ | refine blk_alloc ?_ _)); exact BK386.out) hb); have n3_ := Aside0.mk (below_step (by repeat (first | (with_reducible first | exact HB.out | apply below_alloc | apply pw_below_drewN | apply below_drew1 | refine below_set ?_ GE386.out) | exact HB.out)) hb); clear HO383; clear BK386; clear HB; have HO383 := n0_; have HO389 := n1_; have BK386 := n2_; have HB := n3_; clear n0_ n1_ n2_ n3_; (try clear hb); (try clear hb2); (try clear hk); (try clear hi); (try clear ho0); have hcz19_0 : w18.cell? ⟨gb386, 0, none⟩ = some (.int .i64 t384) := (blk_cell BK386.out 0).trans rfl; have hcz19_1 : w18.cell? ⟨gb386, 1, none⟩ = some (.int .i64 t385) := (blk_cell BK386.out 1).trans rfl; have hfz19_0 := blk_frozen BK386.out 0; have hfz19_1 := blk_frozen BK386.out 1) | ((with_reducible refine gate_callee (f := 64) rfl ?_); refine goesL_ (some 48) rfl rfl Try.func64 (by kernel_rfl) rfl #[.slice Ao17 t381.length co17, .agg #[.int .i64 t384, .int .i64 t385]] rfl (by (try simp only [List.map_toArray, List.map_cons, List.map_nil]); first | done | rfl | (simp only [List.length_drop, List.length_take]; rfl)) ?_; (with_reducible refine (spec_AddModule.calls k _ _ t381 t384 t385 t391 t394 _ ?side1 ?side2 A6.out).mono ?_); (case side1 => repeat (first | exact (Kd.R_reads' HO383.out).2.2 | (with_reducible refine Kd.C_alloc ?_ _) | (with_reducible refine Kd.C_drewN ?_ _) | (with_reducible refine Kd.C_drew ?_))); (case side2 => exact (Kd.R_reads' HO383.out).2.1); rintro e w20 ⟨v392, rfl, ho0, hb⟩; refine ⟨_, rfl, ?_⟩; have n0_ := Aside0.mk (Kd.R_elder' (by (with_reducible repeat (first | apply Kd.R_alloc | apply Kd.R_drewN | apply Kd.R_drew)); exact HO383.out) (Kd.R_base ho0) hb); have n1_ := Aside0.mk (Kd.R_elder' (by (with_reducible repeat (first | apply Kd.R_alloc | apply Kd.R_drewN | apply Kd.R_drew)); exact HO389.out) (Kd.R_base ho0) hb); have n2_ := Aside0.mk (Kd.R_lower (Kd.R_newB (Kd.R_new' (Kd.R_new' ho0 (Kd.R_lt (by (with_reducible repeat (first | apply Kd.R_alloc | apply Kd.R_drewN | apply Kd.R_drew)); exact HO383.out))) (Kd.R_lt (by (with_reducible repeat (first | apply Kd.R_alloc | apply Kd.R_drewN | apply Kd.R_drew)); exact HO389.out))) (g := gb386) (o := .cells #[.int .i64 t384, .int .i64 t385] 47 (0, 0)) (by (with_reducible repeat (first | refine blk_drewN ?_ _ | refine blk_drew ?_ | refine blk_alloc ?_ _)); exact BK386.out)) (below_size (by repeat (first | (with_reducible first | exact HB.out | apply below_alloc | apply pw_below_drewN | apply below_drew1 | refine below_set ?_ GE386.out) | exact HB.out)))); have n3_ := Aside0.mk (blk_below (g := gb386) (o := .cells #[.int .i64 t384, .int .i64 t385] 47 (0, 0)) (by (with_reducible repeat (first | refine blk_drewN ?_ _ | refine blk_drew ?_ | refine blk_alloc ?_ _)); exact BK386.out) hb); have n4_ := Aside0.mk (below_step (by repeat (first | (with_reducible first | exact HB.out | apply below_alloc | apply pw_below_drewN | apply below_drew1 | refine below_set ?_ GE386.out) | exact HB.out)) hb); clear HO383; clear HO389; clear BK386; clear HB; have HO383 := n0_; have HO389 := n1_; have HO393 := n2_; have BK386 := n3_; have HB := n4_; clear n0_ n1_ n2_ n3_ n4_; (try clear hb); (try clear hb2); (try clear hk); (try clear hi); (try clear ho0)) | ((with_reducible refine gate_callee (f := 65) rfl ?_); refine goesL_ (some 53) rfl rfl Try.func65 (by kernel_rfl) rfl #[.slice A0 l0.length c0] rfl (by (try simp only [List.map_toArray, List.map_cons, List.map_nil]); first | done | rfl | (simp only [List.length_drop, List.length_take]; rfl)) ?_; (with_reducible refine (spec_DrawDropModule.calls k _ _ l0 t395 t396 _ ?side1 ?side2 A7.out).mono ?_); (case side1 => repeat (first | exact (Kd.C_below HR0.out HB.out) | (with_reducible refine Kd.C_alloc ?_ _) | (with_reducible refine Kd.C_drewN ?_ _) | (with_reducible refine Kd.C_drew ?_))); (case side2 => exact HC0.out); rintro e w21 ⟨v397, rfl, ho0, hb⟩; refine ⟨_, rfl, ?_⟩; have n0_ := Aside0.mk (Kd.R_elder' (by (with_reducible repeat (first | apply Kd.R_alloc | apply Kd.R_drewN | apply Kd.R_drew)); exact HO383.out) (Kd.R_base ho0) hb); have n1_ := Aside0.mk (Kd.R_elder' (by (with_reducible repeat (first | apply Kd.R_alloc | apply Kd.R_drewN | apply Kd.R_drew)); exact HO389.out) (Kd.R_base ho0) hb); have n2_ := Aside0.mk (Kd.R_elder' (by (with_reducible repeat (first | apply Kd.R_alloc | apply Kd.R_drewN | apply Kd.R_drew)); exact HO393.out) (Kd.R_base ho0) hb); have n3_ := Aside0.mk (Kd.R_lower (Kd.R_newB (Kd.R_new' (Kd.R_new' (Kd.R_new' ho0 (Kd.R_lt (by (with_reducible repeat (first | apply Kd.R_alloc | apply Kd.R_drewN | apply Kd.R_drew)); exact HO383.out))) (Kd.R_lt (by (with_reducible repeat (first | apply Kd.R_alloc | apply Kd.R_drewN | apply Kd.R_drew)); exact HO389.out))) (Kd.R_lt (by (with_reducible repeat (first | apply Kd.R_alloc | apply Kd.R_drewN | apply Kd.R_drew)); exact HO393.out))) (g := gb386) (o := .cells #[.int .i64 t384, .int .i64 t385] 47 (0, 0)) (by (with_reducible repeat (first | refine blk_drewN ?_ _ | refine blk_drew ?_ | refine blk_alloc ?_ _)); exact BK386.out)) (below_size (by repeat (first | (with_reducible first | exact HB.out | apply below_alloc | apply pw_below_drewN | apply below_drew1 | refine below_set ?_ GE386.out) | exact HB.out)))); have n4_ := Aside0.mk (blk_below (g := gb386) (o := .cells #[.int .i64 t384, .int .i64 t385] 47 (0, 0)) (by (with_reducible repeat (first | refine blk_drewN ?_ _ | refine blk_drew ?_ | refine blk_alloc ?_ _)); exact BK386.out) hb); have n5_ := Aside0.mk (below_step (by repeat (first | (with_reducible first | exact HB.out | apply below_alloc | apply pw_below_drewN | apply below_drew1 | refine below_set ?_ GE386.out) | exact HB.out)) hb); clear HO383; clear HO389; clear HO393; clear BK386; clear HB; have HO383 := n0_; have HO389 := n1_; have HO393 := n2_; have HO398 := n3_; have BK386 := n4_; have HB := n5_; clear n0_ n1_ n2_ n3_ n4_ n5_; (try clear hb); (try clear hb2); (try clear hk); (try clear hi); (try clear ho0); obtain ⟨Ao22, co22, eo22⟩ := Kd.R_slice HO398.out; subst eo22) | ((with_reducible refine gate_callee (f := 66) rfl ?_); refine goesL_ (some 59) rfl rfl Try.func66 (by kernel_rfl) rfl #[.slice Ao22 t395.length co22, .int .i64 t396] rfl (by (try simp only [List.map_toArray, List.map_cons, List.map_nil]); first | done | rfl | (simp only [List.length_drop, List.length_take]; rfl)) ?_; (with_reducible refine (impl_DropModule.calls k _ _ t395 t396 t399 t400 _ ?side1 ?side2 A8.out).mono ?_); (case side1 => repeat (first | exact (Kd.R_reads' HO398.out).2.2 | (with_reducible refine Kd.C_alloc ?_ _) | (with_reducible refine Kd.C_drewN ?_ _) | (with_reducible refine Kd.C_drew ?_))); (case side2 => exact (Kd.R_reads' HO398.out).2.1); rintro e w23 ⟨v401, rfl, ho0, hb⟩; refine ⟨_, rfl, ?_⟩; have n0_ := Aside0.mk (Kd.R_elder' (by (with_reducible repeat (first | apply Kd.R_alloc | apply Kd.R_drewN | apply Kd.R_drew)); exact HO383.out) (Kd.R_base ho0) hb); have n1_ := Aside0.mk (Kd.R_elder' (by (with_reducible repeat (first | apply Kd.R_alloc | apply Kd.R_drewN | apply Kd.R_drew)); exact HO389.out) (Kd.R_base ho0) hb); have n2_ := Aside0.mk (Kd.R_elder' (by (with_reducible repeat (first | apply Kd.R_alloc | apply Kd.R_drewN | apply Kd.R_drew)); exact HO393.out) (Kd.R_base ho0) hb); have n3_ := Aside0.mk (Kd.R_elder' (by (with_reducible repeat (first | apply Kd.R_alloc | apply Kd.R_drewN | apply Kd.R_drew)); exact HO398.out) (Kd.R_base ho0) hb); have n4_ := Aside0.mk (Kd.R_lower (Kd.R_newB (Kd.R_new' (Kd.R_new' (Kd.R_new' (Kd.R_new' ho0 (Kd.R_lt (by (with_reducible repeat (first | apply Kd.R_alloc | apply Kd.R_drewN | apply Kd.R_drew)); exact HO383.out))) (Kd.R_lt (by (with_reducible repeat (first | apply Kd.R_alloc | apply Kd.R_drewN | apply Kd.R_drew)); exact HO389.out))) (Kd.R_lt (by (with_reducible repeat (first | apply Kd.R_alloc | apply Kd.R_drewN | apply Kd.R_drew)); exact HO393.out))) (Kd.R_lt (by (with_reducible repeat (first | apply Kd.R_alloc | apply Kd.R_drewN | apply Kd.R_drew)); exact HO398.out))) (g := gb386) (o := .cells #[.int .i64 t384, .int .i64 t385] 47 (0, 0)) (by (with_reducible repeat (first | refine blk_drewN ?_ _ | refine blk_drew ?_ | refine blk_alloc ?_ _)); exact BK386.out)) (below_size (by repeat (first | (with_reducible first | exact HB.out | apply below_alloc | apply pw_below_drewN | apply below_drew1 | refine below_set ?_ GE386.out) | exact HB.out)))); have n5_ := Aside0.mk (blk_below (g := gb386) (o := .cells #[.int .i64 t384, .int .i64 t385] 47 (0, 0)) (by (with_reducible repeat (first | refine blk_drewN ?_ _ | refine blk_drew ?_ | refine blk_alloc ?_ _)); exact BK386.out) hb); have n6_ := Aside0.mk (below_step (by repeat (first | (with_reducible first | exact HB.out | apply below_alloc | apply pw_below_drewN | apply below_drew1 | refine below_set ?_ GE386.out) | exact HB.out)) hb); clear HO383; clear HO389; clear HO393; clear HO398; clear BK386; clear HB; have HO383 := n0_; have HO389 := n1_; have HO393 := n2_; have HO398 := n3_; have HO402 := n4_; have BK386 := n5_; have HB := n6_; clear n0_ n1_ n2_ n3_ n4_ n5_ n6_; (try clear hb); (try clear hb2); (try clear hk); (try clear hi); (try clear ho0)) | ((with_reducible refine gate_callee (f := 67) rfl ?_); refine goesL_ (some 65) rfl rfl Try.func67 (by kernel_rfl) rfl #[.slice Ao22 t395.length co22, .int .i64 t396] rfl (by (try simp only [List.map_toArray, List.map_cons, List.map_nil]); first | done | rfl | (simp only [List.length_drop, List.length_take]; rfl)) ?_; (with_reducible refine (spec_DropModule.calls k _ _ t395 t396 t403 t404 _ ?side1 ?side2 A9.out).mono ?_); (case side1 => repeat (first | exact (Kd.R_reads' HO398.out).2.2 | (with_reducible refine Kd.C_alloc ?_ _) | (with_reducible refine Kd.C_drewN ?_ _) | (with_reducible refine Kd.C_drew ?_))); (case side2 => exact (Kd.R_reads' HO398.out).2.1); rintro e w24 ⟨v405, rfl, ho0, hb⟩; refine ⟨_, rfl, ?_⟩; have n0_ := Aside0.mk (Kd.R_elder' (by (with_reducible repeat (first | apply Kd.R_alloc | apply Kd.R_drewN | apply Kd.R_drew)); exact HO383.out) (Kd.R_base ho0) hb); have n1_ := Aside0.mk (Kd.R_elder' (by (with_reducible repeat (first | apply Kd.R_alloc | apply Kd.R_drewN | apply Kd.R_drew)); exact HO389.out) (Kd.R_base ho0) hb); have n2_ := Aside0.mk (Kd.R_elder' (by (with_reducible repeat (first | apply Kd.R_alloc | apply Kd.R_drewN | apply Kd.R_drew)); exact HO393.out) (Kd.R_base ho0) hb); have n3_ := Aside0.mk (Kd.R_elder' (by (with_reducible repeat (first | apply Kd.R_alloc | apply Kd.R_drewN | apply Kd.R_drew)); exact HO398.out) (Kd.R_base ho0) hb); have n4_ := Aside0.mk (Kd.R_elder' (by (with_reducible repeat (first | apply Kd.R_alloc | apply Kd.R_drewN | apply Kd.R_drew)); exact HO402.out) (Kd.R_base ho0) hb); have n5_ := Aside0.mk (Kd.R_lower (Kd.R_newB (Kd.R_new' (Kd.R_new' (Kd.R_new' (Kd.R_new' (Kd.R_new' ho0 (Kd.R_lt (by (with_reducible repeat (first | apply Kd.R_alloc | apply Kd.R_drewN | apply Kd.R_drew)); exact HO383.out))) (Kd.R_lt (by (with_reducible repeat (first | apply Kd.R_alloc | apply Kd.R_drewN | apply Kd.R_drew)); exact HO389.out))) (Kd.R_lt (by (with_reducible repeat (first | apply Kd.R_alloc | apply Kd.R_drewN | apply Kd.R_drew)); exact HO393.out))) (Kd.R_lt (by (with_reducible repeat (first | apply Kd.R_alloc | apply Kd.R_drewN | apply Kd.R_drew)); exact HO398.out))) (Kd.R_lt (by (with_reducible repeat (first | apply Kd.R_alloc | apply Kd.R_drewN | apply Kd.R_drew)); exact HO402.out))) (g := gb386) (o := .cells #[.int .i64 t384, .int .i64 t385] 47 (0, 0)) (by (with_reducible repeat (first | refine blk_drewN ?_ _ | refine blk_drew ?_ | refine blk_alloc ?_ _)); exact BK386.out)) (below_size (by repeat (first | (with_reducible first | exact HB.out | apply below_alloc | apply pw_below_drewN | apply below_drew1 | refine below_set ?_ GE386.out) | exact HB.out)))); have n6_ := Aside0.mk (blk_below (g := gb386) (o := .cells #[.int .i64 t384, .int .i64 t385] 47 (0, 0)) (by (with_reducible repeat (first | refine blk_drewN ?_ _ | refine blk_drew ?_ | refine blk_alloc ?_ _)); exact BK386.out) hb); have n7_ := Aside0.mk (below_step (by repeat (first | (with_reducible first | exact HB.out | apply below_alloc | apply pw_below_drewN | apply below_drew1 | refine below_set ?_ GE386.out) | exact HB.out)) hb); clear HO383; clear HO389; clear HO393; clear HO398; clear HO402; clear BK386; clear HB; have HO383 := n0_; have HO389 := n1_; have HO393 := n2_; have HO398 := n3_; have HO402 := n4_; have HO406 := n5_; have BK386 := n6_; have HB := n7_; clear n0_ n1_ n2_ n3_ n4_ n5_ n6_ n7_; (try clear hb); (try clear hb2); (try clear hk); (try clear hi); (try clear ho0)) | ((with_reducible refine gate_callee (f := 68) rfl ?_); refine goesL_ (some 70) rfl rfl Try.func68 (by kernel_rfl) rfl #[.slice A0 l0.length c0] rfl (by (try simp only [List.map_toArray, List.map_cons, List.map_nil]); first | done | rfl | (simp only [List.length_drop, List.length_take]; rfl)) ?_; (with_reducible refine (spec_DrawMeetingPoint.calls k _ _ l0 t407 t408 t409 _ ?side1 ?side2 A10.out).mono ?_); (case side1 => repeat (first | exact (Kd.C_below HR0.out HB.out) | (with_reducible refine Kd.C_alloc ?_ _) | (with_reducible refine Kd.C_drewN ?_ _) | (with_reducible refine Kd.C_drew ?_))); (case side2 => exact HC0.out); rintro e w25 ⟨v410, rfl, ho0, hb⟩; refine ⟨_, rfl, ?_⟩; have n0_ := Aside0.mk (Kd.R_elder' (by (with_reducible repeat (first | apply Kd.R_alloc | apply Kd.R_drewN | apply Kd.R_drew)); exact HO383.out) (Kd.R_base ho0) hb); have n1_ := Aside0.mk (Kd.R_elder' (by (with_reducible repeat (first | apply Kd.R_alloc | apply Kd.R_drewN | apply Kd.R_drew)); exact HO389.out) (Kd.R_base ho0) hb); have n2_ := Aside0.mk (Kd.R_elder' (by (with_reducible repeat (first | apply Kd.R_alloc | apply Kd.R_drewN | apply Kd.R_drew)); exact HO393.out) (Kd.R_base ho0) hb); have n3_ := Aside0.mk (Kd.R_elder' (by (with_reducible repeat (first | apply Kd.R_alloc | apply Kd.R_drewN | apply Kd.R_drew)); exact HO398.out) (Kd.R_base ho0) hb); have n4_ := Aside0.mk (Kd.R_elder' (by (with_reducible repeat (first | apply Kd.R_alloc | apply Kd.R_drewN | apply Kd.R_drew)); exact HO402.out) (Kd.R_base ho0) hb); have n5_ := Aside0.mk (Kd.R_elder' (by (with_reducible repeat (first | apply Kd.R_alloc | apply Kd.R_drewN | apply Kd.R_drew)); exact HO406.out) (Kd.R_base ho0) hb); have n6_ := Aside0.mk (Kd.R_lower (Kd.R_newB (Kd.R_new' (Kd.R_new' (Kd.R_new' (Kd.R_new' (Kd.R_new' (Kd.R_new' ho0 (Kd.R_lt (by (with_reducible repeat (first | apply Kd.R_alloc | apply Kd.R_drewN | apply Kd.R_drew)); exact HO383.out))) (Kd.R_lt (by (with_reducible repeat (first | apply Kd.R_alloc | apply Kd.R_drewN | apply Kd.R_drew)); exact HO389.out))) (Kd.R_lt (by (with_reducible repeat (first | apply Kd.R_alloc | apply Kd.R_drewN | apply Kd.R_drew)); exact HO393.out))) (Kd.R_lt (by (with_reducible repeat (first | apply Kd.R_alloc | apply Kd.R_drewN | apply Kd.R_drew)); exact HO398.out))) (Kd.R_lt (by (with_reducible repeat (first | apply Kd.R_alloc | apply Kd.R_drewN | apply Kd.R_drew)); exact HO402.out))) (Kd.R_lt (by (with_reducible repeat (first | apply Kd.R_alloc | apply Kd.R_drewN | apply Kd.R_drew)); exact HO406.out))) (g := gb386) (o := .cells #[.int .i64 t384, .int .i64 t385] 47 (0, 0)) (by (with_reducible repeat (first | refine blk_drewN ?_ _ | refine blk_drew ?_ | refine blk_alloc ?_ _)); exact BK386.out)) (below_size (by repeat (first | (with_reducible first | exact HB.out | apply below_alloc | apply pw_below_drewN | apply below_drew1 | refine below_set ?_ GE386.out) | exact HB.out)))); have n7_ := Aside0.mk (blk_below (g := gb386) (o := .cells #[.int .i64 t384, .int .i64 t385] 47 (0, 0)) (by (with_reducible repeat (first | refine blk_drewN ?_ _ | refine blk_drew ?_ | refine blk_alloc ?_ _)); exact BK386.out) hb); have n8_ := Aside0.mk (below_step (by repeat (first | (with_reducible first | exact HB.out | apply below_alloc | apply pw_below_drewN | apply below_drew1 | refine below_set ?_ GE386.out) | exact HB.out)) hb); clear HO383; clear HO389; clear HO393; clear HO398; clear HO402; clear HO406; clear BK386; clear HB; have HO383 := n0_; have HO389 := n1_; have HO393 := n2_; have HO398 := n3_; have HO402 := n4_; have HO406 := n5_; have HO411 := n6_; have BK386 := n7_; have HB := n8_; clear n0_ n1_ n2_ n3_ n4_ n5_ n6_ n7_ n8_; (try clear hb); (try clear hb2); (try clear hk); (try clear hi); (try clear ho0); obtain ⟨Ao26, co26, eo26⟩ := Kd.R_slice HO411.out; subst eo26) | ((with_reducible refine gate_callee (f := 69) rfl ?_); refine goesL_ (some 78) rfl rfl Try.func69 (by kernel_rfl) rfl #[.slice Ao26 t407.length co26, .int .i64 t408, .int .i64 t409] rfl (by (try simp only [List.map_toArray, List.map_cons, List.map_nil]); first | done | rfl | (simp only [List.length_drop, List.length_take]; rfl)) ?_; (with_reducible refine (impl_MeetingPoint.calls k _ _ t407 t408 t409 t412 t413 _ ?side1 ?side2 A11.out).mono ?_); (case side1 => repeat (first | exact (Kd.R_reads' HO411.out).2.2 | (with_reducible refine Kd.C_alloc ?_ _) | (with_reducible refine Kd.C_drewN ?_ _) | (with_reducible refine Kd.C_drew ?_))); (case side2 => exact (Kd.R_reads' HO411.out).2.1); rintro e w27 ⟨rfl, hb⟩; refine ⟨_, rfl, ?_⟩; have n0_ := Aside0.mk (Kd.R_below (by (with_reducible repeat (first | apply Kd.R_alloc | apply Kd.R_drewN | apply Kd.R_drew)); exact HO383.out) hb); have n1_ := Aside0.mk (Kd.R_below (by (with_reducible repeat (first | apply Kd.R_alloc | apply Kd.R_drewN | apply Kd.R_drew)); exact HO389.out) hb); have n2_ := Aside0.mk (Kd.R_below (by (with_reducible repeat (first | apply Kd.R_alloc | apply Kd.R_drewN | apply Kd.R_drew)); exact HO393.out) hb); have n3_ := Aside0.mk (Kd.R_below (by (with_reducible repeat (first | apply Kd.R_alloc | apply Kd.R_drewN | apply Kd.R_drew)); exact HO398.out) hb); have n4_ := Aside0.mk (Kd.R_below (by (with_reducible repeat (first | apply Kd.R_alloc | apply Kd.R_drewN | apply Kd.R_drew)); exact HO402.out) hb); have n5_ := Aside0.mk (Kd.R_below (by (with_reducible repeat (first | apply Kd.R_alloc | apply Kd.R_drewN | apply Kd.R_drew)); exact HO406.out) hb); have n6_ := Aside0.mk (Kd.R_below (by (with_reducible repeat (first | apply Kd.R_alloc | apply Kd.R_drewN | apply Kd.R_drew)); exact HO411.out) hb); have n7_ := Aside0.mk (blk_below (g := gb386) (o := .cells #[.int .i64 t384, .int .i64 t385] 47 (0, 0)) (by (with_reducible repeat (first | refine blk_drewN ?_ _ | refine blk_drew ?_ | refine blk_alloc ?_ _)); exact BK386.out) hb); have n8_ := Aside0.mk (below_step (by repeat (first | (with_reducible first | exact HB.out | apply below_alloc | apply pw_below_drewN | apply below_drew1 | refine below_set ?_ GE386.out) | exact HB.out)) hb); clear HO383; clear HO389; clear HO393; clear HO398; clear HO402; clear HO406; clear HO411; clear BK386; clear HB; have HO383 := n0_; have HO389 := n1_; have HO393 := n2_; have HO398 := n3_; have HO402 := n4_; have HO406 := n5_; have HO411 := n6_; have BK386 := n7_; have HB := n8_; clear n0_ n1_ n2_ n3_ n4_ n5_ n6_ n7_ n8_; (try clear hb); (try clear hb2); (try clear hk); (try clear hi)) | ((with_reducible refine gate_callee (f := 70) rfl ?_); refine goesL_ (some 85) rfl rfl Try.func70 (by kernel_rfl) rfl #[.slice Ao26 t407.length co26, .int .i64 t408, .int .i64 t409] rfl (by (try simp only [List.map_toArray, List.map_cons, List.map_nil]); first | done | rfl | (simp only [List.length_drop, List.length_take]; rfl)) ?_; (with_reducible refine (spec_MeetingPoint.calls k _ _ t407 t408 t409 t414 t415 _ ?side1 ?side2 A12.out).mono ?_); (case side1 => repeat (first | exact (Kd.R_reads' HO411.out).2.2 | (with_reducible refine Kd.C_alloc ?_ _) | (with_reducible refine Kd.C_drewN ?_ _) | (with_reducible refine Kd.C_drew ?_))); (case side2 => exact (Kd.R_reads' HO411.out).2.1); rintro e w28 ⟨rfl, hb⟩; refine ⟨_, rfl, ?_⟩; have n0_ := Aside0.mk (Kd.R_below (by (with_reducible repeat (first | apply Kd.R_alloc | apply Kd.R_drewN | apply Kd.R_drew)); exact HO383.out) hb); have n1_ := Aside0.mk (Kd.R_below (by (with_reducible repeat (first | apply Kd.R_alloc | apply Kd.R_drewN | apply Kd.R_drew)); exact HO389.out) hb); have n2_ := Aside0.mk (Kd.R_below (by (with_reducible repeat (first | apply Kd.R_alloc | apply Kd.R_drewN | apply Kd.R_drew)); exact HO393.out) hb); have n3_ := Aside0.mk (Kd.R_below (by (with_reducible repeat (first | apply Kd.R_alloc | apply Kd.R_drewN | apply Kd.R_drew)); exact HO398.out) hb); have n4_ := Aside0.mk (Kd.R_below (by (with_reducible repeat (first | apply Kd.R_alloc | apply Kd.R_drewN | apply Kd.R_drew)); exact HO402.out) hb); have n5_ := Aside0.mk (Kd.R_below (by (with_reducible repeat (first | apply Kd.R_alloc | apply Kd.R_drewN | apply Kd.R_drew)); exact HO406.out) hb); have n6_ := Aside0.mk (Kd.R_below (by (with_reducible repeat (first | apply Kd.R_alloc | apply Kd.R_drewN | apply Kd.R_drew)); exact HO411.out) hb); have n7_ := Aside0.mk (blk_below (g := gb386) (o := .cells #[.int .i64 t384, .int .i64 t385] 47 (0, 0)) (by (with_reducible repeat (first | refine blk_drewN ?_ _ | refine blk_drew ?_ | refine blk_alloc ?_ _)); exact BK386.out) hb); have n8_ := Aside0.mk (below_step (by repeat (first | (with_reducible first | exact HB.out | apply below_alloc | apply pw_below_drewN | apply below_drew1 | refine below_set ?_ GE386.out) | exact HB.out)) hb); clear HO383; clear HO389; clear HO393; clear HO398; clear HO402; clear HO406; clear HO411; clear BK386; clear HB; have HO383 := n0_; have HO389 := n1_; have HO393 := n2_; have HO398 := n3_; have HO402 := n4_; have HO406 := n5_; have HO411 := n6_; have BK386 := n7_; have HB := n8_; clear n0_ n1_ n2_ n3_ n4_ n5_ n6_ n7_ n8_; (try clear hb); (try clear hb2); (try clear hk); (try clear hi)))
  (try simp only [Act.put, List.setIfInBounds_toArray, List.set_cons_zero, List.set_cons_succ])
  go_cut [117] (fun v117 wc => ∃ (kq : Nat) (x117_12 : Bool), v117 = .bool x117_12 ∧ Aside0 (laws_FnModuleChanges.j0 kq t381 t387 t390 t395 t396 t399 t400 t407 t408 t409 t412 t413 x117_12 = some r) ∧ Aside0 (kq ≤ k) ∧ Aside0 (Kd.R k47 47 wc w.heap.size (fun k_ => some k_ ≠ (v388 : Value).ownBlock ∧ some k_ ≠ ((.slice Ao22 t395.length co22) : Value).ownBlock ∧ some k_ ≠ (v401 : Value).ownBlock ∧ some k_ ≠ ((.slice Ao26 t407.length co26) : Value).ownBlock ∧ k_ ≠ gb386) (.slice Ao17 t381.length co17) t381) ∧ Aside0 (Kd.R k47 47 wc w.heap.size (fun k_ => some k_ ≠ ((.slice Ao17 t381.length co17) : Value).ownBlock ∧ some k_ ≠ ((.slice Ao22 t395.length co22) : Value).ownBlock ∧ some k_ ≠ (v401 : Value).ownBlock ∧ some k_ ≠ ((.slice Ao26 t407.length co26) : Value).ownBlock ∧ k_ ≠ gb386) v388 t387) ∧ Aside0 (Kd.R k47 47 wc w.heap.size (fun k_ => some k_ ≠ ((.slice Ao17 t381.length co17) : Value).ownBlock ∧ some k_ ≠ (v388 : Value).ownBlock ∧ some k_ ≠ (v401 : Value).ownBlock ∧ some k_ ≠ ((.slice Ao26 t407.length co26) : Value).ownBlock ∧ k_ ≠ gb386) (.slice Ao22 t395.length co22) t395) ∧ Aside0 (Kd.R k47 47 wc w.heap.size (fun k_ => some k_ ≠ ((.slice Ao17 t381.length co17) : Value).ownBlock ∧ some k_ ≠ (v388 : Value).ownBlock ∧ some k_ ≠ ((.slice Ao22 t395.length co22) : Value).ownBlock ∧ some k_ ≠ ((.slice Ao26 t407.length co26) : Value).ownBlock ∧ k_ ≠ gb386) v401 t399) ∧ Aside0 (Kd.R k47 47 wc w.heap.size (fun k_ => some k_ ≠ ((.slice Ao17 t381.length co17) : Value).ownBlock ∧ some k_ ≠ (v388 : Value).ownBlock ∧ some k_ ≠ ((.slice Ao22 t395.length co22) : Value).ownBlock ∧ some k_ ≠ (v401 : Value).ownBlock ∧ k_ ≠ gb386) (.slice Ao26 t407.length co26) t407) ∧ Aside0 (wc.heap[gb386]? = some (.cells #[.int .i64 t384, .int .i64 t385] 47 (0, 0))) ∧ Aside0 (Below w.heap.size w wc))
  case first =>
   have H := HC13.out
   clear HC13
   by_cases c29 : t390 = t394
   ·rw [if_pos c29] at H
    have c29b0 : (t390 == t394) = true := beq_iff_eq.mpr c29
    have c29b1 : (t390 != t394) = false := bne_eq_false_iff_eq.mpr c29
    clear c29
    (first | rw [c29b0] | (simp only [i64_w, i32_w]; rw [c29b0]) | skip)
    replace H := Option.bind_eq_some_iff.mp H
    obtain ⟨t416, A300, H⟩ := H
    replace H : (if t416 = true then (if t400 = t404 then ((laws_likeModules.f k t399 t403).bind fun t417 => (if t417 = true then (if t413 = t415 then (laws_FnModuleChanges.j0 k t381 t387 t390 t395 t396 t399 t400 t407 t408 t409 t412 t413 (t412 != t414)) else (laws_FnModuleChanges.j0 k t381 t387 t390 t395 t396 t399 t400 t407 t408 t409 t412 t413 true)) else (laws_FnModuleChanges.j0 k t381 t387 t390 t395 t396 t399 t400 t407 t408 t409 t412 t413 true))) else (laws_FnModuleChanges.j0 k t381 t387 t390 t395 t396 t399 t400 t407 t408 t409 t412 t413 true)) else (laws_FnModuleChanges.j0 k t381 t387 t390 t395 t396 t399 t400 t407 t408 t409 t412 t413 true)) = some r := H
    have A30 := Aside0.mk A300
    clear A300
    by_cases c31 : t416 = true
    ·subst c31
     have H1 : (if t400 = t404 then ((laws_likeModules.f k t399 t403).bind fun t417 => (if t417 = true then (if t413 = t415 then (laws_FnModuleChanges.j0 k t381 t387 t390 t395 t396 t399 t400 t407 t408 t409 t412 t413 (t412 != t414)) else (laws_FnModuleChanges.j0 k t381 t387 t390 t395 t396 t399 t400 t407 t408 t409 t412 t413 true)) else (laws_FnModuleChanges.j0 k t381 t387 t390 t395 t396 t399 t400 t407 t408 t409 t412 t413 true))) else (laws_FnModuleChanges.j0 k t381 t387 t390 t395 t396 t399 t400 t407 t408 t409 t412 t413 true)) = some r := by rw [if_pos rfl] at H; exact H
     clear H
     have H := H1
     clear H1
     by_cases c32 : t400 = t404
     ·rw [if_pos c32] at H
      have c32b0 : (t400 == t404) = true := beq_iff_eq.mpr c32
      have c32b1 : (t400 != t404) = false := bne_eq_false_iff_eq.mpr c32
      clear c32
      replace H := Option.bind_eq_some_iff.mp H
      obtain ⟨t417, A330, H⟩ := H
      replace H : (if t417 = true then (if t413 = t415 then (laws_FnModuleChanges.j0 k t381 t387 t390 t395 t396 t399 t400 t407 t408 t409 t412 t413 (t412 != t414)) else (laws_FnModuleChanges.j0 k t381 t387 t390 t395 t396 t399 t400 t407 t408 t409 t412 t413 true)) else (laws_FnModuleChanges.j0 k t381 t387 t390 t395 t396 t399 t400 t407 t408 t409 t412 t413 true)) = some r := H
      have A33 := Aside0.mk A330
      clear A330
      by_cases c34 : t417 = true
      ·subst c34
       have H1 : (if t413 = t415 then (laws_FnModuleChanges.j0 k t381 t387 t390 t395 t396 t399 t400 t407 t408 t409 t412 t413 (t412 != t414)) else (laws_FnModuleChanges.j0 k t381 t387 t390 t395 t396 t399 t400 t407 t408 t409 t412 t413 true)) = some r := by rw [if_pos rfl] at H; exact H
       clear H
       have H := H1
       clear H1
       by_cases c35 : t413 = t415
       ·rw [if_pos c35] at H
        have c35b0 : (t413 == t415) = true := beq_iff_eq.mpr c35
        have c35b1 : (t413 != t415) = false := bne_eq_false_iff_eq.mpr c35
        clear c35
        have H' := Aside0.mk H
        clear H
        obtain ⟨Ao36, co36, eo36⟩ := Kd.R_slice HO389.out
        subst eo36
        obtain ⟨Ao37, co37, eo37⟩ := Kd.R_slice HO393.out
        subst eo37
        go_wp2_with (first | (go_at_call 71; (with_reducible refine (laws_likeModules.calls k _ _ t387 _ _ t391 true _ ?side1 ?side2 ?side3 ?side4 A30.out).mono ?_); (case side1 => repeat (first | exact (Kd.R_reads' HO389.out).2.2 | (with_reducible refine Kd.C_alloc ?_ _) | (with_reducible refine Kd.C_drewN ?_ _) | (with_reducible refine Kd.C_drew ?_))); (case side2 => exact (Kd.R_reads' HO389.out).2.1); (case side3 => repeat (first | exact (Kd.R_reads' HO393.out).2.2 | (with_reducible refine Kd.C_alloc ?_ _) | (with_reducible refine Kd.C_drewN ?_ _) | (with_reducible refine Kd.C_drew ?_))); (case side4 => exact (Kd.R_reads' HO393.out).2.1); rintro e w' ⟨rfl, ⟨nd, rfl⟩⟩; obtain ⟨Ao38, co38, eo38⟩ := Kd.R_slice HO402.out; subst eo38; obtain ⟨Ao39, co39, eo39⟩ := Kd.R_slice HO406.out; subst eo39) | (go_at_call 71; (with_reducible refine (laws_likeModules.calls k _ _ t399 _ _ t403 true _ ?side1 ?side2 ?side3 ?side4 A33.out).mono ?_); (case side1 => repeat (first | exact (Kd.R_reads' HO402.out).2.2 | (with_reducible refine Kd.C_alloc ?_ _) | (with_reducible refine Kd.C_drewN ?_ _) | (with_reducible refine Kd.C_drew ?_))); (case side2 => exact (Kd.R_reads' HO402.out).2.1); (case side3 => repeat (first | exact (Kd.R_reads' HO406.out).2.2 | (with_reducible refine Kd.C_alloc ?_ _) | (with_reducible refine Kd.C_drewN ?_ _) | (with_reducible refine Kd.C_drew ?_))); (case side4 => exact (Kd.R_reads' HO406.out).2.1); rintro e w' ⟨rfl, ⟨nd, rfl⟩⟩))
        go_meet
        case rel => exact ⟨_, ((t412 != t414)), (by first | rfl | (simp; done) | (simp [*]; done)), H', ⟨by first | omega | exact Nat.le_refl _⟩, ⟨by (with_reducible repeat (first | apply Kd.R_alloc | apply Kd.R_drewN | apply Kd.R_drew)); exact Kd.R_mono HO383.out (fun _ hk => ⟨hk.1.1.1.1.1.2, ⟨hk.1.1.1.2, ⟨hk.1.1.2, ⟨hk.2, hk.1.1.1.1.1.1.2⟩⟩⟩⟩)⟩, ⟨by (with_reducible repeat (first | apply Kd.R_alloc | apply Kd.R_drewN | apply Kd.R_drew)); exact Kd.R_mono HO389.out (fun _ hk => ⟨hk.1.1.1.1.1.1.2, ⟨hk.1.1.1.2, ⟨hk.1.1.2, ⟨hk.2, hk.1.1.1.1.1.2⟩⟩⟩⟩)⟩, ⟨by (with_reducible repeat (first | apply Kd.R_alloc | apply Kd.R_drewN | apply Kd.R_drew)); exact Kd.R_mono HO398.out (fun _ hk => ⟨hk.1.1.1.1.1.1.2, ⟨hk.1.1.1.1.1.2, ⟨hk.1.1.2, ⟨hk.2, hk.1.1.1.2⟩⟩⟩⟩)⟩, ⟨by (with_reducible repeat (first | apply Kd.R_alloc | apply Kd.R_drewN | apply Kd.R_drew)); exact Kd.R_mono HO402.out (fun _ hk => ⟨hk.1.1.1.1.1.1.2, ⟨hk.1.1.1.1.1.2, ⟨hk.1.1.1.2, ⟨hk.2, hk.1.1.2⟩⟩⟩⟩)⟩, ⟨by (with_reducible repeat (first | apply Kd.R_alloc | apply Kd.R_drewN | apply Kd.R_drew)); exact Kd.R_mono HO411.out (fun _ hk => ⟨hk.1.1.1.1.1.1.2, ⟨hk.1.1.1.1.1.2, ⟨hk.1.1.1.2, ⟨hk.1.1.2, hk.2⟩⟩⟩⟩)⟩, ⟨by (with_reducible repeat (first | refine blk_drewN ?_ _ | refine blk_drew ?_ | refine blk_alloc ?_ _)); exact BK386.out⟩, ⟨by repeat (first | (with_reducible first | exact HB.out | apply below_alloc | apply pw_below_drewN | apply below_drew1 | refine below_set ?_ GE386.out) | exact HB.out)⟩⟩
       ·rw [if_neg c35] at H
        have c35b0 : (t413 == t415) = false := beq_eq_false_iff_ne.mpr c35
        have c35b1 : (t413 != t415) = true := bne_iff_ne.mpr c35
        exact absurd ((laws_FnModuleChanges.j0_true H).trans hT) (by decide)
      ·replace c34 := Bool.eq_false_iff.mpr c34
       subst c34
       have H1 : (laws_FnModuleChanges.j0 k t381 t387 t390 t395 t396 t399 t400 t407 t408 t409 t412 t413 true) = some r := by rw [if_neg (show ¬ (false = true) by decide)] at H; exact H
       clear H
       have H := H1
       clear H1
       exact absurd ((laws_FnModuleChanges.j0_true H).trans hT) (by decide)
     ·rw [if_neg c32] at H
      have c32b0 : (t400 == t404) = false := beq_eq_false_iff_ne.mpr c32
      have c32b1 : (t400 != t404) = true := bne_iff_ne.mpr c32
      exact absurd ((laws_FnModuleChanges.j0_true H).trans hT) (by decide)
    ·replace c31 := Bool.eq_false_iff.mpr c31
     subst c31
     have H1 : (laws_FnModuleChanges.j0 k t381 t387 t390 t395 t396 t399 t400 t407 t408 t409 t412 t413 true) = some r := by rw [if_neg (show ¬ (false = true) by decide)] at H; exact H
     clear H
     have H := H1
     clear H1
     exact absurd ((laws_FnModuleChanges.j0_true H).trans hT) (by decide)
   ·rw [if_neg c29] at H
    have c29b0 : (t390 == t394) = false := beq_eq_false_iff_ne.mpr c29
    have c29b1 : (t390 != t394) = true := bne_iff_ne.mpr c29
    (first | rw [c29b0] | (simp only [i64_w, i32_w]; rw [c29b0]) | skip)
    exact absurd ((laws_FnModuleChanges.j0_true H).trans hT) (by decide)
  case rest =>
   clear HC13
   try clear c1
   try clear c2
   try clear p2
   try clear c3
   try clear c6
   try clear c7
   try clear c8
   try clear c15
   try clear c29
   try clear c29b0
   try clear c29b1
   try clear c31
   try clear c32
   try clear c32b0
   try clear c32b1
   try clear c34
   try clear c35
   try clear c35b0
   try clear c35b1
   try clear hcz16_0
   try clear hcz16_1
   try clear hcz19_0
   try clear hcz19_1
   try clear hfz16_0
   try clear hfz16_1
   try clear hfz19_0
   try clear hfz19_1
   obtain ⟨kq, x117_12, rfl, HA, HJ12, HO_3, HO_5, HO_9, HO_11, HO_15, BK386, HB⟩ := hcut
   cases kq with
   | zero => exact absurd HA.out (by simp [laws_FnModuleChanges.j0])
   | succ kj12 =>
    have H := HA.out
    clear HA
    simp only [laws_FnModuleChanges.j0] at H
    by_cases c52 : x117_12 = true
    ·subst c52
     have H1 : (some false) = some r := by rw [if_pos rfl] at H; exact H
     clear H
     have H := H1
     clear H1
     exact absurd ((Option.some.inj H).trans hT) (by decide)
    ·replace c52 := Bool.eq_false_iff.mpr c52
     subst c52
     have H1 : (if t400 = 0 then ((impl_ModulesBelow.f kj12 t395 t396).bind fun bt418 => (if bt418.2 = 0 then ((impl_AreModules.f kj12 t399).bind fun t422 => (if t422 = true then (if (wrap64 ((t399.length : Int) + (bt418.1.length : Int))) = (t395.length : Int) then (laws_FnModuleChanges.j1 kj12 t381 t387 t390 t407 t408 t409 t412 t413) else (some false)) else (some false))) else (some false))) else (laws_FnModuleChanges.j1 kj12 t381 t387 t390 t407 t408 t409 t412 t413)) = some r := by rw [if_neg (show ¬ (false = true) by decide)] at H; exact H
     clear H
     have H := H1
     clear H1
     have HC53 := Aside0.mk H
     clear H
     go_upto_if 119 with (fail)
     go_cut [] (fun wc => ∃ (kq : Nat), Aside0 (laws_FnModuleChanges.j1 kq t381 t387 t390 t407 t408 t409 t412 t413 = some r) ∧ Aside0 (kq ≤ kj12) ∧ Aside0 (Kd.R k47 47 wc w.heap.size (fun k_ => some k_ ≠ (v388 : Value).ownBlock ∧ some k_ ≠ ((.slice Ao26 t407.length co26) : Value).ownBlock ∧ k_ ≠ gb386) (.slice Ao17 t381.length co17) t381) ∧ Aside0 (Kd.R k47 47 wc w.heap.size (fun k_ => some k_ ≠ ((.slice Ao17 t381.length co17) : Value).ownBlock ∧ some k_ ≠ ((.slice Ao26 t407.length co26) : Value).ownBlock ∧ k_ ≠ gb386) v388 t387) ∧ Aside0 (Kd.R k47 47 wc w.heap.size (fun k_ => some k_ ≠ ((.slice Ao17 t381.length co17) : Value).ownBlock ∧ some k_ ≠ (v388 : Value).ownBlock ∧ k_ ≠ gb386) (.slice Ao26 t407.length co26) t407) ∧ Aside0 (wc.heap[gb386]? = some (.cells #[.int .i64 t384, .int .i64 t385] 47 (0, 0))) ∧ Aside0 (Below w.heap.size w wc))
     case first =>
      have H := HC53.out
      clear HC53
      by_cases c54 : t400 = 0
      ·rw [if_pos c54] at H
       have c54b0 : (t400 == 0) = true := beq_iff_eq.mpr c54
       have c54b1 : (t400 != 0) = false := bne_eq_false_iff_eq.mpr c54
       clear c54
       (first | rw [c54b0] | (simp only [i64_w, i32_w]; rw [c54b0]) | skip)
       replace H := Option.bind_eq_some_iff.mp H
       obtain ⟨⟨t418, t419⟩, A550, H⟩ := H
       replace H : (if t419 = 0 then ((impl_AreModules.f kj12 t399).bind fun t422 => (if t422 = true then (if (wrap64 ((t399.length : Int) + (t418.length : Int))) = (t395.length : Int) then (laws_FnModuleChanges.j1 kj12 t381 t387 t390 t407 t408 t409 t412 t413) else (some false)) else (some false))) else (some false)) = some r := H
       have A55 := Aside0.mk A550
       clear A550
       by_cases c56 : t419 = 0
       ·rw [if_pos c56] at H
        have c56b0 : (t419 == 0) = true := beq_iff_eq.mpr c56
        have c56b1 : (t419 != 0) = false := bne_eq_false_iff_eq.mpr c56
        clear c56
        replace H := Option.bind_eq_some_iff.mp H
        obtain ⟨t422, A570, H⟩ := H
        replace H : (if t422 = true then (if (wrap64 ((t399.length : Int) + (t418.length : Int))) = (t395.length : Int) then (laws_FnModuleChanges.j1 kj12 t381 t387 t390 t407 t408 t409 t412 t413) else (some false)) else (some false)) = some r := H
        have A57 := Aside0.mk A570
        clear A570
        by_cases c58 : t422 = true
        ·subst c58
         have H1 : (if (wrap64 ((t399.length : Int) + (t418.length : Int))) = (t395.length : Int) then (laws_FnModuleChanges.j1 kj12 t381 t387 t390 t407 t408 t409 t412 t413) else (some false)) = some r := by rw [if_pos rfl] at H; exact H
         clear H
         have H := H1
         clear H1
         by_cases c59 : (wrap64 ((t399.length : Int) + (t418.length : Int))) = (t395.length : Int)
         ·rw [if_pos c59] at H
          have c59b0 : ((wrap64 ((t399.length : Int) + (t418.length : Int))) == (t395.length : Int)) = true := beq_iff_eq.mpr c59
          have c59b1 : ((wrap64 ((t399.length : Int) + (t418.length : Int))) != (t395.length : Int)) = false := bne_eq_false_iff_eq.mpr c59
          clear c59
          have H' := Aside0.mk H
          clear H
          go_wp2_with (first | ((with_reducible refine gate_callee (f := 34) rfl ?_); refine goesL_ (some 123) rfl rfl Try.func34 (by kernel_rfl) rfl #[.slice Ao22 t395.length co22, .int .i64 t396] rfl (by (try simp only [List.map_toArray, List.map_cons, List.map_nil]); first | done | rfl | (simp only [List.length_drop, List.length_take]; rfl)) ?_; (with_reducible refine (impl_ModulesBelow.calls kj12 _ _ t395 t396 t418 t419 _ ?side1 ?side2 A55.out).mono ?_); (case side1 => repeat (first | exact (Kd.R_reads' HO_9.out).2.2 | (with_reducible refine Kd.C_alloc ?_ _) | (with_reducible refine Kd.C_drewN ?_ _) | (with_reducible refine Kd.C_drew ?_))); (case side2 => exact (Kd.R_reads' HO_9.out).2.1); rintro e w60 ⟨v420, rfl, ho0, hb⟩; refine ⟨_, rfl, ?_⟩; have n0_ := Aside0.mk (Kd.R_below (by (with_reducible repeat (first | apply Kd.R_alloc | apply Kd.R_drewN | apply Kd.R_drew)); exact HO_3.out) hb); have n1_ := Aside0.mk (Kd.R_below (by (with_reducible repeat (first | apply Kd.R_alloc | apply Kd.R_drewN | apply Kd.R_drew)); exact HO_5.out) hb); have n2_ := Aside0.mk (Kd.R_below (by (with_reducible repeat (first | apply Kd.R_alloc | apply Kd.R_drewN | apply Kd.R_drew)); exact HO_9.out) hb); have n3_ := Aside0.mk (Kd.R_below (by (with_reducible repeat (first | apply Kd.R_alloc | apply Kd.R_drewN | apply Kd.R_drew)); exact HO_11.out) hb); have n4_ := Aside0.mk (Kd.R_below (by (with_reducible repeat (first | apply Kd.R_alloc | apply Kd.R_drewN | apply Kd.R_drew)); exact HO_15.out) hb); have n5_ := Aside0.mk (Kd.R_lower ho0 (below_size (by repeat (first | (with_reducible first | exact HB.out | apply below_alloc | apply pw_below_drewN | apply below_drew1 | refine below_set ?_ GE386.out) | exact HB.out)))); have n6_ := Aside0.mk (blk_below (g := gb386) (o := .cells #[.int .i64 t384, .int .i64 t385] 47 (0, 0)) (by (with_reducible repeat (first | refine blk_drewN ?_ _ | refine blk_drew ?_ | refine blk_alloc ?_ _)); exact BK386.out) hb); have n7_ := Aside0.mk (below_step (by repeat (first | (with_reducible first | exact HB.out | apply below_alloc | apply pw_below_drewN | apply below_drew1 | refine below_set ?_ GE386.out) | exact HB.out)) hb); clear HO_3; clear HO_5; clear HO_9; clear HO_11; clear HO_15; clear BK386; clear HB; have HO_3 := n0_; have HO_5 := n1_; have HO_9 := n2_; have HO_11 := n3_; have HO_15 := n4_; have HO421 := n5_; have BK386 := n6_; have HB := n7_; clear n0_ n1_ n2_ n3_ n4_ n5_ n6_ n7_; (try clear hb); (try clear hb2); (try clear hk); (try clear hi); (try clear ho0); obtain ⟨Ao61, co61, eo61⟩ := Kd.R_slice HO_11.out; subst eo61) | (go_at_call 38; (with_reducible refine (impl_AreModules.calls kj12 _ _ t399 true _ ?side1 ?side2 A57.out).mono ?_); (case side1 => repeat (first | exact (Kd.R_reads' HO_11.out).2.2 | (with_reducible refine Kd.C_alloc ?_ _) | (with_reducible refine Kd.C_drewN ?_ _) | (with_reducible refine Kd.C_drew ?_))); (case side2 => exact (Kd.R_reads' HO_11.out).2.1); rintro e w62 ⟨rfl, hb⟩; have n0_ := Aside0.mk (Kd.R_below (by (with_reducible repeat (first | apply Kd.R_alloc | apply Kd.R_drewN | apply Kd.R_drew)); exact HO_3.out) hb); have n1_ := Aside0.mk (Kd.R_below (by (with_reducible repeat (first | apply Kd.R_alloc | apply Kd.R_drewN | apply Kd.R_drew)); exact HO_5.out) hb); have n2_ := Aside0.mk (Kd.R_below (by (with_reducible repeat (first | apply Kd.R_alloc | apply Kd.R_drewN | apply Kd.R_drew)); exact HO_9.out) hb); have n3_ := Aside0.mk (Kd.R_below (by (with_reducible repeat (first | apply Kd.R_alloc | apply Kd.R_drewN | apply Kd.R_drew)); exact HO_11.out) hb); have n4_ := Aside0.mk (Kd.R_below (by (with_reducible repeat (first | apply Kd.R_alloc | apply Kd.R_drewN | apply Kd.R_drew)); exact HO_15.out) hb); have n5_ := Aside0.mk (Kd.R_below (by (with_reducible repeat (first | apply Kd.R_alloc | apply Kd.R_drewN | apply Kd.R_drew)); exact HO421.out) hb); have n6_ := Aside0.mk (blk_below (g := gb386) (o := .cells #[.int .i64 t384, .int .i64 t385] 47 (0, 0)) (by (with_reducible repeat (first | refine blk_drewN ?_ _ | refine blk_drew ?_ | refine blk_alloc ?_ _)); exact BK386.out) hb); have n7_ := Aside0.mk (below_step (by repeat (first | (with_reducible first | exact HB.out | apply below_alloc | apply pw_below_drewN | apply below_drew1 | refine below_set ?_ GE386.out) | exact HB.out)) hb); clear HO_3; clear HO_5; clear HO_9; clear HO_11; clear HO_15; clear HO421; clear BK386; clear HB; have HO_3 := n0_; have HO_5 := n1_; have HO_9 := n2_; have HO_11 := n3_; have HO_15 := n4_; have HO421 := n5_; have BK386 := n6_; have HB := n7_; clear n0_ n1_ n2_ n3_ n4_ n5_ n6_ n7_; (try clear hb); (try clear hb2); (try clear hk); (try clear hi); obtain ⟨Ao63, co63, eo63⟩ := Kd.R_slice HO421.out; subst eo63))
          go_meet
          case rel => exact ⟨_, H', ⟨by have := HJ12.out; first | omega | exact Nat.le_refl _⟩, ⟨by (with_reducible repeat (first | apply Kd.R_alloc | apply Kd.R_drewN | apply Kd.R_drew)); exact Kd.R_mono HO_3.out (fun _ hk => ⟨hk.1, ⟨hk.2.2.2.1, hk.2.2.2.2⟩⟩)⟩, ⟨by (with_reducible repeat (first | apply Kd.R_alloc | apply Kd.R_drewN | apply Kd.R_drew)); exact Kd.R_mono HO_5.out (fun _ hk => ⟨hk.1, ⟨hk.2.2.2.1, hk.2.2.2.2⟩⟩)⟩, ⟨by (with_reducible repeat (first | apply Kd.R_alloc | apply Kd.R_drewN | apply Kd.R_drew)); exact Kd.R_mono HO_15.out (fun _ hk => ⟨hk.1, ⟨hk.2.1, hk.2.2.2.2⟩⟩)⟩, ⟨by (with_reducible repeat (first | refine blk_drewN ?_ _ | refine blk_drew ?_ | refine blk_alloc ?_ _)); exact BK386.out⟩, ⟨by repeat (first | (with_reducible first | exact HB.out | apply below_alloc | apply pw_below_drewN | apply below_drew1 | refine below_set ?_ GE386.out) | exact HB.out)⟩⟩
         ·rw [if_neg c59] at H
          have c59b0 : ((wrap64 ((t399.length : Int) + (t418.length : Int))) == (t395.length : Int)) = false := beq_eq_false_iff_ne.mpr c59
          have c59b1 : ((wrap64 ((t399.length : Int) + (t418.length : Int))) != (t395.length : Int)) = true := bne_iff_ne.mpr c59
          exact absurd ((Option.some.inj H).trans hT) (by decide)
        ·replace c58 := Bool.eq_false_iff.mpr c58
         subst c58
         have H1 : (some false) = some r := by rw [if_neg (show ¬ (false = true) by decide)] at H; exact H
         clear H
         have H := H1
         clear H1
         exact absurd ((Option.some.inj H).trans hT) (by decide)
       ·rw [if_neg c56] at H
        have c56b0 : (t419 == 0) = false := beq_eq_false_iff_ne.mpr c56
        have c56b1 : (t419 != 0) = true := bne_iff_ne.mpr c56
        exact absurd ((Option.some.inj H).trans hT) (by decide)
      ·rw [if_neg c54] at H
       have c54b0 : (t400 == 0) = false := beq_eq_false_iff_ne.mpr c54
       have c54b1 : (t400 != 0) = true := bne_iff_ne.mpr c54
       (first | rw [c54b0] | (simp only [i64_w, i32_w]; rw [c54b0]) | skip)
       have H' := Aside0.mk H
       clear H
       go_wp2
       go_meet
       case rel => exact ⟨_, H', ⟨by have := HJ12.out; first | omega | exact Nat.le_refl _⟩, ⟨by (with_reducible repeat (first | apply Kd.R_alloc | apply Kd.R_drewN | apply Kd.R_drew)); exact Kd.R_mono HO_3.out (fun _ hk => ⟨hk.1, ⟨hk.2.2.2.1, hk.2.2.2.2⟩⟩)⟩, ⟨by (with_reducible repeat (first | apply Kd.R_alloc | apply Kd.R_drewN | apply Kd.R_drew)); exact Kd.R_mono HO_5.out (fun _ hk => ⟨hk.1, ⟨hk.2.2.2.1, hk.2.2.2.2⟩⟩)⟩, ⟨by (with_reducible repeat (first | apply Kd.R_alloc | apply Kd.R_drewN | apply Kd.R_drew)); exact Kd.R_mono HO_15.out (fun _ hk => ⟨hk.1, ⟨hk.2.1, hk.2.2.2.2⟩⟩)⟩, ⟨by (with_reducible repeat (first | refine blk_drewN ?_ _ | refine blk_drew ?_ | refine blk_alloc ?_ _)); exact BK386.out⟩, ⟨by repeat (first | (with_reducible first | exact HB.out | apply below_alloc | apply pw_below_drewN | apply below_drew1 | refine below_set ?_ GE386.out) | exact HB.out)⟩⟩
     case rest =>
      clear HC53
      try clear c1
      try clear c2
      try clear p2
      try clear c3
      try clear c5
      try clear c6
      try clear p6
      try clear c7
      try clear c8
      try clear c15
      try clear c29
      try clear c29b0
      try clear c29b1
      try clear c31
      try clear c32
      try clear c32b0
      try clear c32b1
      try clear c34
      try clear c35
      try clear c35b0
      try clear c35b1
      try clear c52
      try clear c54
      try clear c54b0
      try clear c54b1
      try clear c56
      try clear c56b0
      try clear c56b1
      try clear c58
      try clear c59
      try clear c59b0
      try clear c59b1
      try clear c62
      try clear c63
      try clear c64
      try clear p64
      try clear c65
      try clear c66
      try clear c67
      try clear c68
      try clear c69
      try clear c70
      try clear hcz16_0
      try clear hcz16_1
      try clear hcz19_0
      try clear hcz19_1
      try clear hfz16_0
      try clear hfz16_1
      try clear hfz19_0
      try clear hfz19_1
      try clear p2
      obtain ⟨kq, HA, HJ52, HO_3, HO_5, HO_15, BK386, HB⟩ := hcut
      cases kq with
      | zero => exact absurd HA.out (by simp [laws_FnModuleChanges.j1])
      | succ kj52 =>
       have H := HA.out
       clear HA
       simp only [laws_FnModuleChanges.j1] at H
       have HC72 := Aside0.mk H
       clear H
       go_upto_if 144 with (fail)
       go_cut [] (fun wc => ∃ (kq : Nat), Aside0 (laws_FnModuleChanges.j2 kq t381 t387 t390 = some r) ∧ Aside0 (kq ≤ kj52) ∧ Aside0 (Kd.R k47 47 wc w.heap.size (fun k_ => some k_ ≠ (v388 : Value).ownBlock ∧ k_ ≠ gb386) (.slice Ao17 t381.length co17) t381) ∧ Aside0 (Kd.R k47 47 wc w.heap.size (fun k_ => some k_ ≠ ((.slice Ao17 t381.length co17) : Value).ownBlock ∧ k_ ≠ gb386) v388 t387) ∧ Aside0 (wc.heap[gb386]? = some (.cells #[.int .i64 t384, .int .i64 t385] 47 (0, 0))) ∧ Aside0 (Below w.heap.size w wc))
       case first =>
        have H := HC72.out
        clear HC72
        by_cases c73 : t413 = 0
        ·rw [if_pos c73] at H
         have c73b0 : (t413 == 0) = true := beq_iff_eq.mpr c73
         have c73b1 : (t413 != 0) = false := bne_eq_false_iff_eq.mpr c73
         clear c73
         (first | rw [c73b0] | (simp only [i64_w, i32_w]; rw [c73b0]) | skip)
         replace H := Option.bind_eq_some_iff.mp H
         obtain ⟨⟨t423, t424⟩, A740, H⟩ := H
         replace H : ((impl_WayToMaster.f kj52 t407 t409).bind fun bt427 => ((impl_MeetingPoint.f kj52 t407 t409 t408).bind fun bt431 => (if t424 = 0 then (if bt427.2 = 0 then ((laws_hasInt.f kj52 t423 t412).bind fun t433 => (if t433 = true then ((laws_hasInt.f kj52 bt427.1 t412).bind fun t434 => (if t434 = true then (if bt431.2 = 0 then (if bt431.1 = t412 then (laws_FnModuleChanges.j2 kj52 t381 t387 t390) else (some false)) else (some false)) else (some false))) else (some false))) else (some false)) else (some false)))) = some r := H
         have A74 := Aside0.mk A740
         clear A740
         replace H := Option.bind_eq_some_iff.mp H
         obtain ⟨⟨t427, t428⟩, A750, H⟩ := H
         replace H : ((impl_MeetingPoint.f kj52 t407 t409 t408).bind fun bt431 => (if t424 = 0 then (if t428 = 0 then ((laws_hasInt.f kj52 t423 t412).bind fun t433 => (if t433 = true then ((laws_hasInt.f kj52 t427 t412).bind fun t434 => (if t434 = true then (if bt431.2 = 0 then (if bt431.1 = t412 then (laws_FnModuleChanges.j2 kj52 t381 t387 t390) else (some false)) else (some false)) else (some false))) else (some false))) else (some false)) else (some false))) = some r := H
         have A75 := Aside0.mk A750
         clear A750
         replace H := Option.bind_eq_some_iff.mp H
         obtain ⟨⟨t431, t432⟩, A760, H⟩ := H
         replace H : (if t424 = 0 then (if t428 = 0 then ((laws_hasInt.f kj52 t423 t412).bind fun t433 => (if t433 = true then ((laws_hasInt.f kj52 t427 t412).bind fun t434 => (if t434 = true then (if t432 = 0 then (if t431 = t412 then (laws_FnModuleChanges.j2 kj52 t381 t387 t390) else (some false)) else (some false)) else (some false))) else (some false))) else (some false)) else (some false)) = some r := H
         have A76 := Aside0.mk A760
         clear A760
         by_cases c77 : t424 = 0
         ·rw [if_pos c77] at H
          have c77b0 : (t424 == 0) = true := beq_iff_eq.mpr c77
          have c77b1 : (t424 != 0) = false := bne_eq_false_iff_eq.mpr c77
          clear c77
          by_cases c78 : t428 = 0
          ·rw [if_pos c78] at H
           have c78b0 : (t428 == 0) = true := beq_iff_eq.mpr c78
           have c78b1 : (t428 != 0) = false := bne_eq_false_iff_eq.mpr c78
           clear c78
           replace H := Option.bind_eq_some_iff.mp H
           obtain ⟨t433, A790, H⟩ := H
           replace H : (if t433 = true then ((laws_hasInt.f kj52 t427 t412).bind fun t434 => (if t434 = true then (if t432 = 0 then (if t431 = t412 then (laws_FnModuleChanges.j2 kj52 t381 t387 t390) else (some false)) else (some false)) else (some false))) else (some false)) = some r := H
           have A79 := Aside0.mk A790
           clear A790
           by_cases c80 : t433 = true
           ·subst c80
            have H1 : ((laws_hasInt.f kj52 t427 t412).bind fun t434 => (if t434 = true then (if t432 = 0 then (if t431 = t412 then (laws_FnModuleChanges.j2 kj52 t381 t387 t390) else (some false)) else (some false)) else (some false))) = some r := by rw [if_pos rfl] at H; exact H
            clear H
            have H := H1
            clear H1
            replace H := Option.bind_eq_some_iff.mp H
            obtain ⟨t434, A810, H⟩ := H
            replace H : (if t434 = true then (if t432 = 0 then (if t431 = t412 then (laws_FnModuleChanges.j2 kj52 t381 t387 t390) else (some false)) else (some false)) else (some false)) = some r := H
            have A81 := Aside0.mk A810
            clear A810
            by_cases c82 : t434 = true
            ·subst c82
             have H1 : (if t432 = 0 then (if t431 = t412 then (laws_FnModuleChanges.j2 kj52 t381 t387 t390) else (some false)) else (some false)) = some r := by rw [if_pos rfl] at H; exact H
             clear H
             have H := H1
             clear H1
             by_cases c83 : t432 = 0
             ·rw [if_pos c83] at H
              have c83b0 : (t432 == 0) = true := beq_iff_eq.mpr c83
              have c83b1 : (t432 != 0) = false := bne_eq_false_iff_eq.mpr c83
              clear c83
              by_cases c84 : t431 = t412
              ·rw [if_pos c84] at H
               have c84b0 : (t431 == t412) = true := beq_iff_eq.mpr c84
               have c84b1 : (t431 != t412) = false := bne_eq_false_iff_eq.mpr c84
               clear c84
               have H' := Aside0.mk H
               clear H
               go_wp2_with (first | ((with_reducible refine gate_callee (f := 30) rfl ?_); refine goesL_ (some 148) rfl rfl Try.func30 (by kernel_rfl) rfl #[.slice Ao26 t407.length co26, .int .i64 t408] rfl (by (try simp only [List.map_toArray, List.map_cons, List.map_nil]); first | done | rfl | (simp only [List.length_drop, List.length_take]; rfl)) ?_; (with_reducible refine (impl_WayToMaster.calls kj52 _ _ t407 t408 t423 t424 _ ?side1 ?side2 A74.out).mono ?_); (case side1 => repeat (first | exact (Kd.R_reads' HO_15.out).2.2 | (with_reducible refine Kd.C_alloc ?_ _) | (with_reducible refine Kd.C_drewN ?_ _) | (with_reducible refine Kd.C_drew ?_))); (case side2 => exact (Kd.R_reads' HO_15.out).2.1); rintro e w85 ⟨v425, rfl, ho0, hb⟩; refine ⟨_, rfl, ?_⟩; have n0_ := Aside0.mk (Kd.R_below (by (with_reducible repeat (first | apply Kd.R_alloc | apply Kd.R_drewN | apply Kd.R_drew)); exact HO_3.out) hb); have n1_ := Aside0.mk (Kd.R_below (by (with_reducible repeat (first | apply Kd.R_alloc | apply Kd.R_drewN | apply Kd.R_drew)); exact HO_5.out) hb); have n2_ := Aside0.mk (Kd.R_below (by (with_reducible repeat (first | apply Kd.R_alloc | apply Kd.R_drewN | apply Kd.R_drew)); exact HO_15.out) hb); have n3_ := Aside0.mk (Kd.R_lower ho0 (below_size (by repeat (first | (with_reducible first | exact HB.out | apply below_alloc | apply pw_below_drewN | apply below_drew1 | refine below_set ?_ GE386.out) | exact HB.out)))); have n4_ := Aside0.mk (blk_below (g := gb386) (o := .cells #[.int .i64 t384, .int .i64 t385] 47 (0, 0)) (by (with_reducible repeat (first | refine blk_drewN ?_ _ | refine blk_drew ?_ | refine blk_alloc ?_ _)); exact BK386.out) hb); have n5_ := Aside0.mk (below_step (by repeat (first | (with_reducible first | exact HB.out | apply below_alloc | apply pw_below_drewN | apply below_drew1 | refine below_set ?_ GE386.out) | exact HB.out)) hb); clear HO_3; clear HO_5; clear HO_15; clear BK386; clear HB; have HO_3 := n0_; have HO_5 := n1_; have HO_15 := n2_; have HO426 := n3_; have BK386 := n4_; have HB := n5_; clear n0_ n1_ n2_ n3_ n4_ n5_; (try clear hb); (try clear hb2); (try clear hk); (try clear hi); (try clear ho0)) | ((with_reducible refine gate_callee (f := 30) rfl ?_); refine goesL_ (some 154) rfl rfl Try.func30 (by kernel_rfl) rfl #[.slice Ao26 t407.length co26, .int .i64 t409] rfl (by (try simp only [List.map_toArray, List.map_cons, List.map_nil]); first | done | rfl | (simp only [List.length_drop, List.length_take]; rfl)) ?_; (with_reducible refine (impl_WayToMaster.calls kj52 _ _ t407 t409 t427 t428 _ ?side1 ?side2 A75.out).mono ?_); (case side1 => repeat (first | exact (Kd.R_reads' HO_15.out).2.2 | (with_reducible refine Kd.C_alloc ?_ _) | (with_reducible refine Kd.C_drewN ?_ _) | (with_reducible refine Kd.C_drew ?_))); (case side2 => exact (Kd.R_reads' HO_15.out).2.1); rintro e w86 ⟨v429, rfl, ho0, hb⟩; refine ⟨_, rfl, ?_⟩; have n0_ := Aside0.mk (Kd.R_below (by (with_reducible repeat (first | apply Kd.R_alloc | apply Kd.R_drewN | apply Kd.R_drew)); exact HO_3.out) hb); have n1_ := Aside0.mk (Kd.R_below (by (with_reducible repeat (first | apply Kd.R_alloc | apply Kd.R_drewN | apply Kd.R_drew)); exact HO_5.out) hb); have n2_ := Aside0.mk (Kd.R_below (by (with_reducible repeat (first | apply Kd.R_alloc | apply Kd.R_drewN | apply Kd.R_drew)); exact HO_15.out) hb); have n3_ := Aside0.mk (Kd.R_elder' (by (with_reducible repeat (first | apply Kd.R_alloc | apply Kd.R_drewN | apply Kd.R_drew)); exact HO426.out) (Kd.R_base ho0) hb); have n4_ := Aside0.mk (Kd.R_lower (Kd.R_new' ho0 (Kd.R_lt (by (with_reducible repeat (first | apply Kd.R_alloc | apply Kd.R_drewN | apply Kd.R_drew)); exact HO426.out))) (below_size (by repeat (first | (with_reducible first | exact HB.out | apply below_alloc | apply pw_below_drewN | apply below_drew1 | refine below_set ?_ GE386.out) | exact HB.out)))); have n5_ := Aside0.mk (blk_below (g := gb386) (o := .cells #[.int .i64 t384, .int .i64 t385] 47 (0, 0)) (by (with_reducible repeat (first | refine blk_drewN ?_ _ | refine blk_drew ?_ | refine blk_alloc ?_ _)); exact BK386.out) hb); have n6_ := Aside0.mk (below_step (by repeat (first | (with_reducible first | exact HB.out | apply below_alloc | apply pw_below_drewN | apply below_drew1 | refine below_set ?_ GE386.out) | exact HB.out)) hb); clear HO_3; clear HO_5; clear HO_15; clear HO426; clear BK386; clear HB; have HO_3 := n0_; have HO_5 := n1_; have HO_15 := n2_; have HO426 := n3_; have HO430 := n4_; have BK386 := n5_; have HB := n6_; clear n0_ n1_ n2_ n3_ n4_ n5_ n6_; (try clear hb); (try clear hb2); (try clear hk); (try clear hi); (try clear ho0)) | ((with_reducible refine gate_callee (f := 69) rfl ?_); refine goesL_ (some 161) rfl rfl Try.func69 (by kernel_rfl) rfl #[.slice Ao26 t407.length co26, .int .i64 t409, .int .i64 t408] rfl (by (try simp only [List.map_toArray, List.map_cons, List.map_nil]); first | done | rfl | (simp only [List.length_drop, List.length_take]; rfl)) ?_; (with_reducible refine (impl_MeetingPoint.calls kj52 _ _ t407 t409 t408 t431 t432 _ ?side1 ?side2 A76.out).mono ?_); (case side1 => repeat (first | exact (Kd.R_reads' HO_15.out).2.2 | (with_reducible refine Kd.C_alloc ?_ _) | (with_reducible refine Kd.C_drewN ?_ _) | (with_reducible refine Kd.C_drew ?_))); (case side2 => exact (Kd.R_reads' HO_15.out).2.1); rintro e w87 ⟨rfl, hb⟩; refine ⟨_, rfl, ?_⟩; have n0_ := Aside0.mk (Kd.R_below (by (with_reducible repeat (first | apply Kd.R_alloc | apply Kd.R_drewN | apply Kd.R_drew)); exact HO_3.out) hb); have n1_ := Aside0.mk (Kd.R_below (by (with_reducible repeat (first | apply Kd.R_alloc | apply Kd.R_drewN | apply Kd.R_drew)); exact HO_5.out) hb); have n2_ := Aside0.mk (Kd.R_below (by (with_reducible repeat (first | apply Kd.R_alloc | apply Kd.R_drewN | apply Kd.R_drew)); exact HO_15.out) hb); have n3_ := Aside0.mk (Kd.R_below (by (with_reducible repeat (first | apply Kd.R_alloc | apply Kd.R_drewN | apply Kd.R_drew)); exact HO426.out) hb); have n4_ := Aside0.mk (Kd.R_below (by (with_reducible repeat (first | apply Kd.R_alloc | apply Kd.R_drewN | apply Kd.R_drew)); exact HO430.out) hb); have n5_ := Aside0.mk (blk_below (g := gb386) (o := .cells #[.int .i64 t384, .int .i64 t385] 47 (0, 0)) (by (with_reducible repeat (first | refine blk_drewN ?_ _ | refine blk_drew ?_ | refine blk_alloc ?_ _)); exact BK386.out) hb); have n6_ := Aside0.mk (below_step (by repeat (first | (with_reducible first | exact HB.out | apply below_alloc | apply pw_below_drewN | apply below_drew1 | refine below_set ?_ GE386.out) | exact HB.out)) hb); clear HO_3; clear HO_5; clear HO_15; clear HO426; clear HO430; clear BK386; clear HB; have HO_3 := n0_; have HO_5 := n1_; have HO_15 := n2_; have HO426 := n3_; have HO430 := n4_; have BK386 := n5_; have HB := n6_; clear n0_ n1_ n2_ n3_ n4_ n5_ n6_; (try clear hb); (try clear hb2); (try clear hk); (try clear hi); obtain ⟨Ao88, co88, eo88⟩ := Kd.R_slice HO426.out; subst eo88) | (go_at_call 26; (with_reducible refine (laws_hasInt.calls kj52 _ _ t423 t412 true _ ?side1 ?side2 A79.out).mono ?_); (case side1 => repeat (first | exact (Kd.R_reads' HO426.out).2.2 | (with_reducible refine Kd.C_alloc ?_ _) | (with_reducible refine Kd.C_drewN ?_ _) | (with_reducible refine Kd.C_drew ?_))); (case side2 => exact (Kd.R_reads' HO426.out).2.1); rintro e w' ⟨rfl, ⟨nd, rfl⟩⟩; obtain ⟨Ao89, co89, eo89⟩ := Kd.R_slice HO430.out; subst eo89) | (go_at_call 26; (with_reducible refine (laws_hasInt.calls kj52 _ _ t427 t412 true _ ?side1 ?side2 A81.out).mono ?_); (case side1 => repeat (first | exact (Kd.R_reads' HO430.out).2.2 | (with_reducible refine Kd.C_alloc ?_ _) | (with_reducible refine Kd.C_drewN ?_ _) | (with_reducible refine Kd.C_drew ?_))); (case side2 => exact (Kd.R_reads' HO430.out).2.1); rintro e w' ⟨rfl, ⟨nd, rfl⟩⟩))
               go_meet
               case rel => exact ⟨_, H', ⟨by have := HJ12.out; have := HJ52.out; first | omega | exact Nat.le_refl _⟩, ⟨by (with_reducible repeat (first | apply Kd.R_alloc | apply Kd.R_drewN | apply Kd.R_drew)); exact Kd.R_mono HO_3.out (fun _ hk => ⟨hk.1, hk.2.2⟩)⟩, ⟨by (with_reducible repeat (first | apply Kd.R_alloc | apply Kd.R_drewN | apply Kd.R_drew)); exact Kd.R_mono HO_5.out (fun _ hk => ⟨hk.1, hk.2.2⟩)⟩, ⟨by (with_reducible repeat (first | refine blk_drewN ?_ _ | refine blk_drew ?_ | refine blk_alloc ?_ _)); exact BK386.out⟩, ⟨by repeat (first | (with_reducible first | exact HB.out | apply below_alloc | apply pw_below_drewN | apply below_drew1 | refine below_set ?_ GE386.out) | exact HB.out)⟩⟩
              ·rw [if_neg c84] at H
               have c84b0 : (t431 == t412) = false := beq_eq_false_iff_ne.mpr c84
               have c84b1 : (t431 != t412) = true := bne_iff_ne.mpr c84
               exact absurd ((Option.some.inj H).trans hT) (by decide)
             ·rw [if_neg c83] at H
              have c83b0 : (t432 == 0) = false := beq_eq_false_iff_ne.mpr c83
              have c83b1 : (t432 != 0) = true := bne_iff_ne.mpr c83
              exact absurd ((Option.some.inj H).trans hT) (by decide)
            ·replace c82 := Bool.eq_false_iff.mpr c82
             subst c82
             have H1 : (some false) = some r := by rw [if_neg (show ¬ (false = true) by decide)] at H; exact H
             clear H
             have H := H1
             clear H1
             exact absurd ((Option.some.inj H).trans hT) (by decide)
           ·replace c80 := Bool.eq_false_iff.mpr c80
            subst c80
            have H1 : (some false) = some r := by rw [if_neg (show ¬ (false = true) by decide)] at H; exact H
            clear H
            have H := H1
            clear H1
            exact absurd ((Option.some.inj H).trans hT) (by decide)
          ·rw [if_neg c78] at H
           have c78b0 : (t428 == 0) = false := beq_eq_false_iff_ne.mpr c78
           have c78b1 : (t428 != 0) = true := bne_iff_ne.mpr c78
           exact absurd ((Option.some.inj H).trans hT) (by decide)
         ·rw [if_neg c77] at H
          have c77b0 : (t424 == 0) = false := beq_eq_false_iff_ne.mpr c77
          have c77b1 : (t424 != 0) = true := bne_iff_ne.mpr c77
          exact absurd ((Option.some.inj H).trans hT) (by decide)
        ·rw [if_neg c73] at H
         have c73b0 : (t413 == 0) = false := beq_eq_false_iff_ne.mpr c73
         have c73b1 : (t413 != 0) = true := bne_iff_ne.mpr c73
         (first | rw [c73b0] | (simp only [i64_w, i32_w]; rw [c73b0]) | skip)
         have H' := Aside0.mk H
         clear H
         go_wp2
         go_meet
         case rel => exact ⟨_, H', ⟨by have := HJ12.out; have := HJ52.out; first | omega | exact Nat.le_refl _⟩, ⟨by (with_reducible repeat (first | apply Kd.R_alloc | apply Kd.R_drewN | apply Kd.R_drew)); exact Kd.R_mono HO_3.out (fun _ hk => ⟨hk.1, hk.2.2⟩)⟩, ⟨by (with_reducible repeat (first | apply Kd.R_alloc | apply Kd.R_drewN | apply Kd.R_drew)); exact Kd.R_mono HO_5.out (fun _ hk => ⟨hk.1, hk.2.2⟩)⟩, ⟨by (with_reducible repeat (first | refine blk_drewN ?_ _ | refine blk_drew ?_ | refine blk_alloc ?_ _)); exact BK386.out⟩, ⟨by repeat (first | (with_reducible first | exact HB.out | apply below_alloc | apply pw_below_drewN | apply below_drew1 | refine below_set ?_ GE386.out) | exact HB.out)⟩⟩
       case rest =>
        clear HC72
        try clear c1
        try clear c2
        try clear p2
        try clear c3
        try clear c5
        try clear c6
        try clear p6
        try clear c7
        try clear c8
        try clear c15
        try clear c29
        try clear c29b0
        try clear c29b1
        try clear c30
        try clear c31
        try clear c32
        try clear c32b0
        try clear c32b1
        try clear c34
        try clear c35
        try clear c35b0
        try clear c35b1
        try clear c52
        try clear c54
        try clear c54b0
        try clear c54b1
        try clear c56
        try clear c56b0
        try clear c56b1
        try clear c58
        try clear c59
        try clear c59b0
        try clear c59b1
        try clear c62
        try clear c63
        try clear c64
        try clear p64
        try clear c65
        try clear c66
        try clear c67
        try clear c68
        try clear c69
        try clear c70
        try clear c73
        try clear c73b0
        try clear c73b1
        try clear c77
        try clear c77b0
        try clear c77b1
        try clear c78
        try clear c78b0
        try clear c78b1
        try clear c80
        try clear c82
        try clear c83
        try clear c83b0
        try clear c83b1
        try clear c84
        try clear c84b0
        try clear c84b1
        try clear hcz16_0
        try clear hcz16_1
        try clear hcz19_0
        try clear hcz19_1
        try clear hfz16_0
        try clear hfz16_1
        try clear hfz19_0
        try clear hfz19_1
        try clear p2
        try clear p6
        try clear p64
        obtain ⟨kq, HA, HJ71, HO_3, HO_5, BK386, HB⟩ := hcut
        cases kq with
        | zero => exact absurd HA.out (by simp [laws_FnModuleChanges.j2])
        | succ kj71 =>
         have H := HA.out
         clear HA
         simp only [laws_FnModuleChanges.j2] at H
         by_cases c115 : t390 = 0
         ·rw [if_pos c115] at H
          have c115b0 : (t390 == 0) = true := beq_iff_eq.mpr c115
          have c115b1 : (t390 != 0) = false := bne_eq_false_iff_eq.mpr c115
          clear c115
          replace H := Option.bind_eq_some_iff.mp H
          obtain ⟨⟨t435, t436⟩, A1160, H⟩ := H
          replace H : (if t436 = 0 then ((laws_likeModules.f kj71 t435 t381).bind fun t439 => (if t439 = true then ((impl_AreModules.f kj71 t387).bind fun t440 => (some t440)) else (some false))) else (some false)) = some r := H
          have A116 := Aside0.mk A1160
          clear A1160
          by_cases c117 : t436 = 0
          ·rw [if_pos c117] at H
           have c117b0 : (t436 == 0) = true := beq_iff_eq.mpr c117
           have c117b1 : (t436 != 0) = false := bne_eq_false_iff_eq.mpr c117
           clear c117
           replace H := Option.bind_eq_some_iff.mp H
           obtain ⟨t439, A1180, H⟩ := H
           replace H : (if t439 = true then ((impl_AreModules.f kj71 t387).bind fun t440 => (some t440)) else (some false)) = some r := H
           have A118 := Aside0.mk A1180
           clear A1180
           by_cases c119 : t439 = true
           ·subst c119
            have H1 : ((impl_AreModules.f kj71 t387).bind fun t440 => (some t440)) = some r := by rw [if_pos rfl] at H; exact H
            clear H
            have H := H1
            clear H1
            replace H := Option.bind_eq_some_iff.mp H
            obtain ⟨t440, A1200, H⟩ := H
            replace H : (some t440) = some r := H
            have A120 := Aside0.mk A1200
            clear A1200
            obtain rfl := Option.some.inj H
            obtain ⟨Ao121, co121, eo121⟩ := Kd.R_slice HO_5.out
            subst eo121
            go_wp2_with (first | ((with_reducible refine gate_callee (f := 66) rfl ?_); refine goesL_ (some 197) rfl rfl Try.func66 (by kernel_rfl) rfl #[.slice Ao121 t387.length co121, .int .i64 (t381.length : Int)] rfl (by (try simp only [List.map_toArray, List.map_cons, List.map_nil]); first | done | rfl | (simp only [List.length_drop, List.length_take]; rfl)) ?_; (with_reducible refine (impl_DropModule.calls kj71 _ _ t387 (t381.length : Int) t435 t436 _ ?side1 ?side2 A116.out).mono ?_); (case side1 => repeat (first | exact (Kd.R_reads' HO_5.out).2.2 | (with_reducible refine Kd.C_alloc ?_ _) | (with_reducible refine Kd.C_drewN ?_ _) | (with_reducible refine Kd.C_drew ?_))); (case side2 => exact (Kd.R_reads' HO_5.out).2.1); rintro e w122 ⟨v437, rfl, ho0, hb⟩; refine ⟨_, rfl, ?_⟩; have n0_ := Aside0.mk (Kd.R_elder' (by (with_reducible repeat (first | apply Kd.R_alloc | apply Kd.R_drewN | apply Kd.R_drew)); exact HO_3.out) (Kd.R_base ho0) hb); have n1_ := Aside0.mk (Kd.R_elder' (by (with_reducible repeat (first | apply Kd.R_alloc | apply Kd.R_drewN | apply Kd.R_drew)); exact HO_5.out) (Kd.R_base ho0) hb); have n2_ := Aside0.mk (Kd.R_lower (Kd.R_newB (Kd.R_new' (Kd.R_new' ho0 (Kd.R_lt (by (with_reducible repeat (first | apply Kd.R_alloc | apply Kd.R_drewN | apply Kd.R_drew)); exact HO_3.out))) (Kd.R_lt (by (with_reducible repeat (first | apply Kd.R_alloc | apply Kd.R_drewN | apply Kd.R_drew)); exact HO_5.out))) (g := gb386) (o := .cells #[.int .i64 t384, .int .i64 t385] 47 (0, 0)) (by (with_reducible repeat (first | refine blk_drewN ?_ _ | refine blk_drew ?_ | refine blk_alloc ?_ _)); exact BK386.out)) (below_size (by repeat (first | (with_reducible first | exact HB.out | apply below_alloc | apply pw_below_drewN | apply below_drew1 | refine below_set ?_ GE386.out) | exact HB.out)))); have n3_ := Aside0.mk (blk_below (g := gb386) (o := .cells #[.int .i64 t384, .int .i64 t385] 47 (0, 0)) (by (with_reducible repeat (first | refine blk_drewN ?_ _ | refine blk_drew ?_ | refine blk_alloc ?_ _)); exact BK386.out) hb); have n4_ := Aside0.mk (below_step (by repeat (first | (with_reducible first | exact HB.out | apply below_alloc | apply pw_below_drewN | apply below_drew1 | refine below_set ?_ GE386.out) | exact HB.out)) hb); clear HO_3; clear HO_5; clear BK386; clear HB; have HO_3 := n0_; have HO_5 := n1_; have HO438 := n2_; have BK386 := n3_; have HB := n4_; clear n0_ n1_ n2_ n3_ n4_; (try clear hb); (try clear hb2); (try clear hk); (try clear hi); (try clear ho0); obtain ⟨Ao123, co123, eo123⟩ := Kd.R_slice HO438.out; subst eo123) | (go_at_call 71; (with_reducible refine (laws_likeModules.calls kj71 _ _ t435 _ _ t381 true _ ?side1 ?side2 ?side3 ?side4 A118.out).mono ?_); (case side1 => repeat (first | exact (Kd.R_reads' HO438.out).2.2 | (with_reducible refine Kd.C_alloc ?_ _) | (with_reducible refine Kd.C_drewN ?_ _) | (with_reducible refine Kd.C_drew ?_))); (case side2 => exact (Kd.R_reads' HO438.out).2.1); (case side3 => repeat (first | exact (Kd.R_reads' HO_3.out).2.2 | (with_reducible refine Kd.C_alloc ?_ _) | (with_reducible refine Kd.C_drewN ?_ _) | (with_reducible refine Kd.C_drew ?_))); (case side4 => exact (Kd.R_reads' HO_3.out).2.1); rintro e w' ⟨rfl, ⟨nd, rfl⟩⟩) | (go_at_call 38; (with_reducible refine (impl_AreModules.calls kj71 _ _ t387 t440 _ ?side1 ?side2 A120.out).mono ?_); (case side1 => repeat (first | exact (Kd.R_reads' HO_5.out).2.2 | (with_reducible refine Kd.C_alloc ?_ _) | (with_reducible refine Kd.C_drewN ?_ _) | (with_reducible refine Kd.C_drew ?_))); (case side2 => exact (Kd.R_reads' HO_5.out).2.1); rintro e w124 ⟨rfl, hb⟩; have n0_ := Aside0.mk (Kd.R_below (by (with_reducible repeat (first | apply Kd.R_alloc | apply Kd.R_drewN | apply Kd.R_drew)); exact HO_3.out) hb); have n1_ := Aside0.mk (Kd.R_below (by (with_reducible repeat (first | apply Kd.R_alloc | apply Kd.R_drewN | apply Kd.R_drew)); exact HO_5.out) hb); have n2_ := Aside0.mk (Kd.R_below (by (with_reducible repeat (first | apply Kd.R_alloc | apply Kd.R_drewN | apply Kd.R_drew)); exact HO438.out) hb); have n3_ := Aside0.mk (blk_below (g := gb386) (o := .cells #[.int .i64 t384, .int .i64 t385] 47 (0, 0)) (by (with_reducible repeat (first | refine blk_drewN ?_ _ | refine blk_drew ?_ | refine blk_alloc ?_ _)); exact BK386.out) hb); have n4_ := Aside0.mk (below_step (by repeat (first | (with_reducible first | exact HB.out | apply below_alloc | apply pw_below_drewN | apply below_drew1 | refine below_set ?_ GE386.out) | exact HB.out)) hb); clear HO_3; clear HO_5; clear HO438; clear BK386; clear HB; have HO_3 := n0_; have HO_5 := n1_; have HO438 := n2_; have BK386 := n3_; have HB := n4_; clear n0_ n1_ n2_ n3_ n4_; (try clear hb); (try clear hb2); (try clear hk); (try clear hi)))
            go_ret
            exact ⟨by first | rfl | (simp [errW_none, errW_some] <;> rfl) | (simp [*, errW_none, errW_some] <;> rfl), by repeat (first | (with_reducible first | exact HB.out | apply below_alloc | apply pw_below_drewN | apply below_drew1 | refine below_set ?_ GE386.out) | exact HB.out)⟩
           ·replace c119 := Bool.eq_false_iff.mpr c119
            subst c119
            have H1 : (some false) = some r := by rw [if_neg (show ¬ (false = true) by decide)] at H; exact H
            clear H
            have H := H1
            clear H1
            exact absurd ((Option.some.inj H).trans hT) (by decide)
          ·rw [if_neg c117] at H
           have c117b0 : (t436 == 0) = false := beq_eq_false_iff_ne.mpr c117
           have c117b1 : (t436 != 0) = true := bne_iff_ne.mpr c117
           exact absurd ((Option.some.inj H).trans hT) (by decide)
         ·rw [if_neg c115] at H
          have c115b0 : (t390 == 0) = false := beq_eq_false_iff_ne.mpr c115
          have c115b1 : (t390 != 0) = true := bne_iff_ne.mpr c115
          obtain rfl := Option.some.inj H
          go_wp2
          go_ret
          exact ⟨by first | rfl | (simp [errW_none, errW_some] <;> rfl) | (simp [*, errW_none, errW_some] <;> rfl), by repeat (first | (with_reducible first | exact HB.out | apply below_alloc | apply pw_below_drewN | apply below_drew1 | refine below_set ?_ GE386.out) | exact HB.out)⟩
/-- THE ONE PURE STATEMENT of laws_FnModuleChanges: yours. -/
def laws_FnModuleChanges.Pure : Prop := ∀ (l0 : List Int), l0.length ≤ maxLen → l0.length * 1 ≤ 140737488351232 → (∀ x ∈ l0, (Lit.int .u8 x).wf = true) → ∃ k, laws_FnModuleChanges.f k l0 = some true
theorem laws_FnModuleChanges.walk (P : laws_FnModuleChanges.Pure) (a0 : Option Addr) (len0 cap0 : Nat) (z0 : List Int) (w : World) (w0 : (a0 = none ∧ len0 = 0 ∧ cap0 = 0 ∧ z0 = []) ∨ ∃ x, a0 = some x ∧ len0 ≤ cap0 ∧ cap0 ≤ maxLen ∧ z0.length = cap0 ∧ (∀ i, i < z0.length → w.cell? (x.add i) = some (.int .u8 (z0.getD i 0))) ∧ ∀ n ∈ z0, (Lit.int .u8 n).wf = true) (y0 : len0 * 1 ≤ 140737488351232) :
  Calls Try.prog 8 #[.slice a0 len0 cap0] w fun e w' => e = .returned (.bool true) ∧ Below w.heap.size w w' := by
 obtain ⟨l0, rfl, hr0, hm0, hw0, hc0⟩ := ReadsInt.ofRowC w0
 obtain ⟨k, h⟩ := P l0 hm0 y0 hw0
 refine (laws_FnModuleChanges.calls k _ _ l0 true w (Kd.C_of_reads (d := (0 : Int)) (h1 := fun _ => rfl) hr0) hc0 h rfl).mono ?_
 rintro e w' ⟨rfl, hd⟩
 exact ⟨rfl, hd⟩
end Go.Proofs.Ytmahecjbejffoaa.PFnModuleChanges
