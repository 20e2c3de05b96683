/- QFnTablesj of the law FnTables: taken over, declaration by declaration, as far as the law leans on it (the words and the printed functions are the kit's own print). No condition but what each says. -/
import Derived.Test.YtedcdhnbceaaeaaZFnTablesav
import Derived.Test.YtedcdhnbceaaeaaZFnTablesaw
import Derived.Test.YtedcdhnbceaaeaaZFnTablesay
import Derived.Test.YtedcdhnbceaaeaaZFnTablesaz
import Derived.Test.YtedcdhnbceaaeaaZFnTablesba
import Derived.Test.YtedcdhnbceaaeaaZFnTablesbb
import Derived.Test.YtedcdhnbceaaeaaZFnTablesbe
import Derived.Test.YtedcdhnbceaaeaaZFnTablesbf
import Derived.Test.YtedcdhnbceaaeaaZFnTablesbh
namespace Go.Proofs.Ytedcdhnbceaaeaa.PFnTables
open Go.RowKit Go.Proofs.YtedcdhnbceaaeaaW.PrintWords Go.Proofs.YtedcdhnbceaaeaaW.PrintLast Go.Proofs.YtedcdhnbceaaeaaW.PrintMore
attribute [local go_sem] max2_int min2_int max_two min_two max_three min_three max_four min_four   -- for this text's walks alone
set_option linter.unusedVariables false
set_option linter.unusedSimpArgs false
open Bool renaming true → t_, false → f_
mutual
def laws_FnTables.j0 : Nat → List Int → List (S81) → List (S81) → Int → List (S81) → List (S81) → List (S81) → Int → List (S81) → List (S83) → Int → List Int → List Int → List Int → Int → Bool → Option (Bool)
 | 0, _, _, _, _, _, _, _, _, _, _, _, _, _, _, _, _ => none
 | k + 1, x0, x3, x5, x6, x9, x10, x11, x12, x15, x16, x17, x18, x19, x20, x21, x136 => if x136 = true then (some false) else (laws_FnTables.l0 k x0 x3 x5 x6 x9 x10 x11 x12 x15 x16 x17 x18 x19 x20 x21 0)
def laws_FnTables.l0 : Nat → List Int → List (S81) → List (S81) → Int → List (S81) → List (S81) → List (S81) → Int → List (S81) → List (S83) → Int → List Int → List Int → List Int → Int → Int → Option (Bool)
 | 0, _, _, _, _, _, _, _, _, _, _, _, _, _, _, _, _ => none
 | k + 1, x0, x3, x5, x6, x9, x10, x11, x12, x15, x16, x17, x18, x19, x20, x21, x24 => if x21 = 0 then (laws_FnTables.j2 k x0 x3 x5 x6 x9 x10 x11 x12 x15 x16 x17 x18 x19 x20 x21 x24 (decide (x24 < (x18.length : Int)))) else (laws_FnTables.j2 k x0 x3 x5 x6 x9 x10 x11 x12 x15 x16 x17 x18 x19 x20 x21 x24 false)
def laws_FnTables.j2 : Nat → List Int → List (S81) → List (S81) → Int → List (S81) → List (S81) → List (S81) → Int → List (S81) → List (S83) → Int → List Int → List Int → List Int → Int → Int → Bool → Option (Bool)
 | 0, _, _, _, _, _, _, _, _, _, _, _, _, _, _, _, _, _ => none
 | k + 1, x0, x3, x5, x6, x9, x10, x11, x12, x15, x16, x17, x18, x19, x20, x21, x24, x144 => if x144 = true then (if 0 ≤ x24 then (if x24 < (x18.length : Int) then (if x24 < (x19.length : Int) then ((impl_IsAllowed.f k x15 x16 x17 (rd x18 x24) (rd x19 x24)).bind fun bt732 => (if bt732.2 = 0 then ((laws_hasInt.f k x20 x24).bind fun t734 => (if (bt732.1 != t734) = true then (some false) else (laws_FnTables.l0 k x0 x3 x5 x6 x9 x10 x11 x12 x15 x16 x17 x18 x19 x20 x21 (wrap64 (x24 + 1))))) else (some false))) else (none)) else (none)) else (none)) else (if x12 = 0 then ((laws_roll.f k x0 1601).bind fun bt735 => ((laws_dice_below.f bt735.1 bt735.2.1 bt735.2.2 281).bind fun bt739 => ((laws_dice_below.f bt735.1 bt739.2.1 bt739.2.2 4).bind fun bt742 => ((impl_DistanceFor.f k x11 (wrap64 (20 + bt739.1)) bt742.1).bind fun bt745 => ((impl_DistanceFor.f k x9 (wrap64 (20 + bt739.1)) bt742.1).bind fun bt747 => ((impl_DistanceFor.f k x10 (wrap64 (20 + bt739.1)) bt742.1).bind fun bt749 => ((impl_IsTable.f k x11).bind fun t751 => (if t751 = true then ((laws_hasKind.f k x10 bt742.1).bind fun t752 => (if t752 = true then ((laws_hasKind.f k x9 bt742.1).bind fun t753 => (if t753 = true then (laws_FnTables.j3 k x3 x5 x6) else (if bt745.2 = bt749.2 then (if bt749.1 = bt745.1 then (laws_FnTables.j3 k x3 x5 x6) else (some false)) else (some false)))) else (if bt745.2 = bt747.2 then (if bt747.1 = bt745.1 then ((laws_hasKind.f k x9 bt742.1).bind fun t754 => (if t754 = true then (laws_FnTables.j3 k x3 x5 x6) else (if bt745.2 = bt749.2 then (if bt749.1 = bt745.1 then (laws_FnTables.j3 k x3 x5 x6) else (some false)) else (some false)))) else (some false)) else (some false)))) else (some false))))))))) else (laws_FnTables.j3 k x3 x5 x6))
def laws_FnTables.j3 : Nat → List (S81) → List (S81) → Int → Option (Bool)
 | 0, _, _, _ => none
 | k + 1, x3, x5, x6 => laws_FnTables.l1 k x3 x5 x6 0
def laws_FnTables.l1 : Nat → List (S81) → List (S81) → Int → Int → Option (Bool)
 | 0, _, _, _, _ => none
 | k + 1, x3, x5, x6, x36 => if x6 = 0 then (laws_FnTables.j5 k x3 x5 x6 x36 (decide (x36 < (x5.length : Int)))) else (laws_FnTables.j5 k x3 x5 x6 x36 false)
def laws_FnTables.j5 : Nat → List (S81) → List (S81) → Int → Int → Bool → Option (Bool)
 | 0, _, _, _, _, _ => none
 | k + 1, x3, x5, x6, x36, x243 => if x243 = true then (if 0 ≤ x36 then (if x36 < (x5.length : Int) then (if x36 < (x3.length : Int) then (if ((rd_T81 x5 x36).f2) < ((rd_T81 x3 x36).f2) then (some false) else (if ((rd_T81 x5 x36).f0) = ((rd_T81 x3 x36).f0) then (if ((rd_T81 x5 x36).f1) = ((rd_T81 x3 x36).f1) then (laws_FnTables.l1 k x3 x5 x6 (wrap64 (x36 + 1))) else (some false)) else (some false))) else (none)) else (none)) else (none)) else (if x6 = 0 then ((impl_IsTable.f k x5).bind fun t761 => (some t761)) else (some true))
end
def laws_FnTables.f (k : Nat) (l0 : List Int) : Option (Bool) := (laws_big.f l0).bind fun t678 => (if t678 = true then (some true) else ((spec_DrawWidenTable.f k l0).bind fun bt679 => ((impl_WidenTable.f k bt679.1 bt679.2).bind fun bt683 => ((spec_WidenTable.f k bt679.1 bt679.2).bind fun bt687 => ((spec_DrawMergeTables.f k l0).bind fun bt691 => ((impl_MergeTables.f k bt691.1 bt691.2).bind fun bt697 => ((spec_MergeTables.f k bt691.1 bt691.2).bind fun bt701 => ((spec_DrawAllowedPlaces.f k l0).bind fun bt705 => ((impl_AllowedPlaces.f k bt705.1 bt705.2.1 bt705.2.2.1 bt705.2.2.2.1 bt705.2.2.2.2).bind fun bt718 => ((spec_AllowedPlaces.f k bt705.1 bt705.2.1 bt705.2.2.1 bt705.2.2.2.1 bt705.2.2.2.2).bind fun bt722 => (if bt683.2 = bt687.2 then ((laws_likeDemands.f k bt683.1 bt687.1).bind fun t726 => (if t726 = true then (if bt697.2 = bt701.2 then ((laws_likeDemands.f k bt697.1 bt701.1).bind fun t727 => (if t727 = true then (if bt718.2 = bt722.2 then ((laws_likeInts.f k bt718.1 bt722.1).bind fun t728 => (if t728 = true then ((impl_IsTable.f k bt679.1).bind fun t729 => (laws_FnTables.j0 k l0 bt679.1 bt683.1 bt683.2 bt691.1 bt691.2 bt697.1 bt697.2 bt705.1 bt705.2.1 bt705.2.2.1 bt705.2.2.2.1 bt705.2.2.2.2 bt718.1 bt718.2 (t729 != (bt687.2 != 1)))) else (laws_FnTables.j0 k l0 bt679.1 bt683.1 bt683.2 bt691.1 bt691.2 bt697.1 bt697.2 bt705.1 bt705.2.1 bt705.2.2.1 bt705.2.2.2.1 bt705.2.2.2.2 bt718.1 bt718.2 true))) else (laws_FnTables.j0 k l0 bt679.1 bt683.1 bt683.2 bt691.1 bt691.2 bt697.1 bt697.2 bt705.1 bt705.2.1 bt705.2.2.1 bt705.2.2.2.1 bt705.2.2.2.2 bt718.1 bt718.2 true)) else (laws_FnTables.j0 k l0 bt679.1 bt683.1 bt683.2 bt691.1 bt691.2 bt697.1 bt697.2 bt705.1 bt705.2.1 bt705.2.2.1 bt705.2.2.2.1 bt705.2.2.2.2 bt718.1 bt718.2 true))) else (laws_FnTables.j0 k l0 bt679.1 bt683.1 bt683.2 bt691.1 bt691.2 bt697.1 bt697.2 bt705.1 bt705.2.1 bt705.2.2.1 bt705.2.2.2.1 bt705.2.2.2.2 bt718.1 bt718.2 true)) else (laws_FnTables.j0 k l0 bt679.1 bt683.1 bt683.2 bt691.1 bt691.2 bt697.1 bt697.2 bt705.1 bt705.2.1 bt705.2.2.1 bt705.2.2.2.1 bt705.2.2.2.2 bt718.1 bt718.2 true))) else (laws_FnTables.j0 k l0 bt679.1 bt683.1 bt683.2 bt691.1 bt691.2 bt697.1 bt697.2 bt705.1 bt705.2.1 bt705.2.2.1 bt705.2.2.2.1 bt705.2.2.2.2 bt718.1 bt718.2 true))))))))))))
def laws_FnTables.T17 : Bool × List (List Nat × List Nat) := (true, [([], []), ([], []), ([], []), ([], []), ([], []), ([3, 4], [3, 4]), ([5], [5]), ([], []), ([], []), ([7, 8], [7, 8]), ([9], [9]), ([0, 1, 2, 6, 10], [0, 1, 2, 6, 10]), ([11], [11]), ([12], [12]), ([12], [12]), ([13, 11, 0, 1, 2, 3, 4, 5, 6, 7, 8, 9, 10, 11, 12, 13], [13]), ([14, 15, 0, 1, 2, 3, 4, 5, 6, 7, 8, 9, 10, 11, 12, 13, 14, 15], [14])])
def laws_FnTables.B17 : List Nat := [0, 0, 0, 0, 0, 24, 56, 0, 0, 384, 896, 2047, 4095, 8191, 8191, 16383, 65535]
theorem laws_FnTables.tab17 : rtab .any (opsOf Try.f5 17) = laws_FnTables.T17 := by kernel_rfl
theorem laws_FnTables.bits17 : waitsOk laws_FnTables.T17.2 laws_FnTables.B17 = true := by kernel_rfl
def laws_FnTables.T31 : Bool × List (List Nat × List Nat) := (true, [([], []), ([], []), ([0, 1], [0, 1]), ([2], [2]), ([3], [3]), ([], []), ([], []), ([5, 6], [5, 6]), ([7], [7]), ([8], [8]), ([4, 9], [4, 9]), ([10], [10]), ([11], [11]), ([11], [11]), ([12, 13, 11], [11, 12, 13]), ([14, 11], [11, 14]), ([15, 11], [11, 15]), ([11], [11]), ([11], [11]), ([17, 18, 11], [11, 17, 18]), ([19, 11], [11, 19]), ([20, 11], [11, 20]), ([16, 21, 11], [11, 16, 21]), ([11, 22], [11, 22]), ([23, 11], [23]), ([24], [24]), ([24], [24]), ([25, 26, 24], [24, 25, 26]), ([27, 24], [24, 27]), ([28, 24], [24, 28]), ([24], [24]), ([24], [24]), ([30, 31, 24], [24, 30, 31]), ([32, 24], [24, 32]), ([33, 24], [24, 33]), ([29, 34, 24], [24, 29, 34]), ([24, 35], [24, 35])])
def laws_FnTables.B31 : List Nat := [0, 0, 3, 7, 15, 0, 0, 96, 224, 480, 1023, 2047, 4095, 4095, 16383, 32767, 65535, 4095, 4095, 397311, 921599, 1970175, 4194303, 8388607, 16777215, 33554431, 33554431, 134217727, 268435455, 536870911, 33554431, 33554431, 3254779903, 7549747199, 16139681791, 34359738367, 68719476735]
theorem laws_FnTables.tab31 : rtab .any (opsOf Try.f5 31) = laws_FnTables.T31 := by kernel_rfl
theorem laws_FnTables.bits31 : waitsOk laws_FnTables.T31.2 laws_FnTables.B31 = true := by kernel_rfl
theorem laws_FnTables.j0_true {k : Nat} {a0} {a1} {a2} {a3} {a4} {a5} {a6} {a7} {a8} {a9} {a10} {a11} {a12} {a13} {a14} {r : Bool} (h : laws_FnTables.j0 k a0 a1 a2 a3 a4 a5 a6 a7 a8 a9 a10 a11 a12 a13 a14 true = some r) : false = r := by
 cases k with
 | zero => simp [laws_FnTables.j0] at h
 | succ k => simpa [laws_FnTables.j0] using h
set_option maxHeartbeats 8000000 in
set_option maxRecDepth 100000 in
theorem laws_FnTables.calls (k : Nat) (A0 : Option Addr) (c0 : Nat) (l0 : List Int) (r : Bool) (w : World) (hr0 : Kd.C (Kd.int .u8) w A0 l0.length l0) (hc0 : l0.length ≤ c0) (h : laws_FnTables.f k l0 = some r) (hT : r = true) :
  Calls Try.prog 5 #[.slice A0 l0.length c0] w fun e w' => e = .returned (.bool r) ∧ Below w.heap.size w w' := by
 have HR0 := Aside0.mk hr0
 have HC0 := Aside0.mk hc0
 clear hr0 hc0
 have HB := Aside0.mk (Below.refl w.heap.size w)
 have H : ((laws_big.f l0).bind fun t678 => (if t678 = true then (some true) else ((spec_DrawWidenTable.f k l0).bind fun bt679 => ((impl_WidenTable.f k bt679.1 bt679.2).bind fun bt683 => ((spec_WidenTable.f k bt679.1 bt679.2).bind fun bt687 => ((spec_DrawMergeTables.f k l0).bind fun bt691 => ((impl_MergeTables.f k bt691.1 bt691.2).bind fun bt697 => ((spec_MergeTables.f k bt691.1 bt691.2).bind fun bt701 => ((spec_DrawAllowedPlaces.f k l0).bind fun bt705 => ((impl_AllowedPlaces.f k bt705.1 bt705.2.1 bt705.2.2.1 bt705.2.2.2.1 bt705.2.2.2.2).bind fun bt718 => ((spec_AllowedPlaces.f k bt705.1 bt705.2.1 bt705.2.2.1 bt705.2.2.2.1 bt705.2.2.2.2).bind fun bt722 => (if bt683.2 = bt687.2 then ((laws_likeDemands.f k bt683.1 bt687.1).bind fun t726 => (if t726 = true then (if bt697.2 = bt701.2 then ((laws_likeDemands.f k bt697.1 bt701.1).bind fun t727 => (if t727 = true then (if bt718.2 = bt722.2 then ((laws_likeInts.f k bt718.1 bt722.1).bind fun t728 => (if t728 = true then ((impl_IsTable.f k bt679.1).bind fun t729 => (laws_FnTables.j0 k l0 bt679.1 bt683.1 bt683.2 bt691.1 bt691.2 bt697.1 bt697.2 bt705.1 bt705.2.1 bt705.2.2.1 bt705.2.2.2.1 bt705.2.2.2.2 bt718.1 bt718.2 (t729 != (bt687.2 != 1)))) else (laws_FnTables.j0 k l0 bt679.1 bt683.1 bt683.2 bt691.1 bt691.2 bt697.1 bt697.2 bt705.1 bt705.2.1 bt705.2.2.1 bt705.2.2.2.1 bt705.2.2.2.2 bt718.1 bt718.2 true))) else (laws_FnTables.j0 k l0 bt679.1 bt683.1 bt683.2 bt691.1 bt691.2 bt697.1 bt697.2 bt705.1 bt705.2.1 bt705.2.2.1 bt705.2.2.2.1 bt705.2.2.2.2 bt718.1 bt718.2 true)) else (laws_FnTables.j0 k l0 bt679.1 bt683.1 bt683.2 bt691.1 bt691.2 bt697.1 bt697.2 bt705.1 bt705.2.1 bt705.2.2.1 bt705.2.2.2.1 bt705.2.2.2.2 bt718.1 bt718.2 true))) else (laws_FnTables.j0 k l0 bt679.1 bt683.1 bt683.2 bt691.1 bt691.2 bt697.1 bt697.2 bt705.1 bt705.2.1 bt705.2.2.1 bt705.2.2.2.1 bt705.2.2.2.2 bt718.1 bt718.2 true)) else (laws_FnTables.j0 k l0 bt679.1 bt683.1 bt683.2 bt691.1 bt691.2 bt697.1 bt697.2 bt705.1 bt705.2.1 bt705.2.2.1 bt705.2.2.2.1 bt705.2.2.2.2 bt718.1 bt718.2 true))) else (laws_FnTables.j0 k l0 bt679.1 bt683.1 bt683.2 bt691.1 bt691.2 bt697.1 bt697.2 bt705.1 bt705.2.1 bt705.2.2.1 bt705.2.2.2.1 bt705.2.2.2.2 bt718.1 bt718.2 true))))))))))))) = some r := h
 clear h
 replace H := Option.bind_eq_some_iff.mp H
 obtain ⟨t678, A20, H⟩ := H
 try dsimp only at H
 have A2 := Aside0.mk A20
 clear A20
 by_cases c3 : t678 = true
 case pos =>
  subst c3
  rw [if_pos rfl] at H
  obtain rfl := Option.some.inj H
  go_enter Try.func5, Try.ntmps5
  go_wp2_with (first | ((with_reducible refine gate_callee (f := 29) rfl ?_); refine goesL_ (some 38) rfl rfl Try.func29 (by kernel_rfl) rfl #[.slice A0 l0.length c0] rfl ag_ ?_; (with_reducible refine (laws_big.calls _ _ l0 true _ ?side1 ?side2 A2.out).mono ?_); (case side1 => exact r9_ HR0.out); (case side2 => exact HC0.out); rintro e w' ⟨rfl, ⟨nd, rfl⟩⟩; refine ⟨_, rfl, ?_⟩))
  go_ret
  exact ⟨(re_), bl_ HB.out⟩
 as_aux_lemma =>
  replace c3 := Bool.eq_false_iff.mpr c3
  subst c3
  rw [if_neg (show ¬ (false = true) by decide)] at H
  replace H := Option.bind_eq_some_iff.mp H
  obtain ⟨⟨t679, t680⟩, A40, H⟩ := H
  try dsimp only at H
  have A4 := Aside0.mk A40
  clear A40
  replace H := Option.bind_eq_some_iff.mp H
  obtain ⟨⟨t683, t684⟩, A50, H⟩ := H
  try dsimp only at H
  have A5 := Aside0.mk A50
  clear A50
  replace H := Option.bind_eq_some_iff.mp H
  obtain ⟨⟨t687, t688⟩, A60, H⟩ := H
  try dsimp only at H
  have A6 := Aside0.mk A60
  clear A60
  replace H := Option.bind_eq_some_iff.mp H
  obtain ⟨⟨t691, t692⟩, A70, H⟩ := H
  try dsimp only at H
  have A7 := Aside0.mk A70
  clear A70
  replace H := Option.bind_eq_some_iff.mp H
  obtain ⟨⟨t697, t698⟩, A80, H⟩ := H
  try dsimp only at H
  have A8 := Aside0.mk A80
  clear A80
  replace H := Option.bind_eq_some_iff.mp H
  obtain ⟨⟨t701, t702⟩, A90, H⟩ := H
  try dsimp only at H
  have A9 := Aside0.mk A90
  clear A90
  replace H := Option.bind_eq_some_iff.mp H
  obtain ⟨⟨t705, t706, t707, t708, t709⟩, A100, H⟩ := H
  try dsimp only at H
  have A10 := Aside0.mk A100
  clear A100
  replace H := Option.bind_eq_some_iff.mp H
  obtain ⟨⟨t718, t719⟩, A110, H⟩ := H
  try dsimp only at H
  have A11 := Aside0.mk A110
  clear A110
  replace H := Option.bind_eq_some_iff.mp H
  obtain ⟨⟨t722, t723⟩, A120, H⟩ := H
  try dsimp only at H
  have A12 := Aside0.mk A120
  clear A120
  have HC13 := Aside0.mk H
  clear H
  go_enter Try.func5, Try.ntmps5
  go_upto_region 12 with (first | ((with_reducible refine gate_callee (f := 29) rfl ?_); refine goesL_ (some 38) rfl rfl Try.func29 (by kernel_rfl) rfl #[.slice A0 l0.length c0] rfl ag_ ?_; (with_reducible refine (laws_big.calls _ _ l0 false _ ?side1 ?side2 A2.out).mono ?_); (case side1 => exact r9_ HR0.out); (case side2 => exact HC0.out); rintro e w' ⟨rfl, ⟨nd, rfl⟩⟩; refine ⟨_, rfl, ?_⟩) | ((with_reducible refine gate_callee (f := 46) rfl ?_); refine goesL_ (some 41) rfl rfl Try.func46 (by kernel_rfl) rfl #[.slice A0 l0.length c0] rfl ag_ ?_; (with_reducible refine (spec_DrawWidenTable.calls k _ _ l0 t679 t680 _ ?side1 ?side2 A4.out).mono ?_); (case side1 => exact r9_ HR0.out); (case side2 => exact HC0.out); rintro e w14 ⟨v681, rfl, ho0, hb⟩; refine ⟨_, rfl, ?_⟩; have HO682 := Aside0.mk (Kd.R_lower ho0 (below_size (bl_ HB.out))); replace HB := Aside0.mk (below_step (bl_ HB.out) hb); (try clear hb); (try clear hb2); (try clear hk); (try clear hi); (try clear ho0); obtain ⟨Ao15, co15, eo15⟩ := Kd.R_slice HO682.out; subst eo15) | ((with_reducible refine gate_callee (f := 47) rfl ?_); refine goesL_ (some 47) rfl rfl Try.func47 (by kernel_rfl) rfl #[.slice Ao15 t679.length co15, .int .i64 t680] rfl ag_ ?_; (with_reducible refine (impl_WidenTable.calls k _ _ t679 t680 t683 t684 _ ?side1 ?side2 A5.out).mono ?_); (case side1 => exact r6_ HO682.out); (case side2 => exact (Kd.R_reads' HO682.out).2.1); rintro e w16 ⟨v685, rfl, ho0, hb⟩; refine ⟨_, rfl, ?_⟩; have HO686 := Aside0.mk (Kd.R_lower (Kd.R_new' ho0 (Kd.R_lt (rk_ HO682.out))) (below_size (bl_ HB.out))); replace HO682 := Aside0.mk (Kd.R_elder' (rk_ HO682.out) (Kd.R_base ho0) hb); replace HB := Aside0.mk (below_step (bl_ HB.out) hb); (try clear hb); (try clear hb2); (try clear hk); (try clear hi); (try clear ho0)) | ((with_reducible refine gate_callee (f := 48) rfl ?_); refine goesL_ (some 53) rfl rfl Try.func48 (by kernel_rfl) rfl #[.slice Ao15 t679.length co15, .int .i64 t680] rfl ag_ ?_; (with_reducible refine (spec_WidenTable.calls k _ _ t679 t680 t687 t688 _ ?side1 ?side2 A6.out).mono ?_); (case side1 => exact r6_ HO682.out); (case side2 => exact (Kd.R_reads' HO682.out).2.1); rintro e w17 ⟨v689, rfl, ho0, hb⟩; refine ⟨_, rfl, ?_⟩; have HO690 := Aside0.mk (Kd.R_lower (Kd.R_new' (Kd.R_new' ho0 (Kd.R_lt (rk_ HO682.out))) (Kd.R_lt (rk_ HO686.out))) (below_size (bl_ HB.out))); replace HO682 := Aside0.mk (Kd.R_elder' (rk_ HO682.out) (Kd.R_base ho0) hb); replace HO686 := Aside0.mk (Kd.R_elder' (rk_ HO686.out) (Kd.R_base ho0) hb); replace HB := Aside0.mk (below_step (bl_ HB.out) hb); (try clear hb); (try clear hb2); (try clear hk); (try clear hi); (try clear ho0)) | ((with_reducible refine gate_callee (f := 49) rfl ?_); refine goesL_ (some 58) rfl rfl Try.func49 (by kernel_rfl) rfl #[.slice A0 l0.length c0] rfl ag_ ?_; (with_reducible refine (spec_DrawMergeTables.calls k _ _ l0 t691 t692 _ ?side1 ?side2 A7.out).mono ?_); (case side1 => exact r7_ HR0.out HB.out); (case side2 => exact HC0.out); rintro e w18 ⟨v693, v695, rfl, ho0, ho1, hb⟩; refine ⟨_, rfl, ?_⟩; have HO694 := Aside0.mk (Kd.R_lower (Kd.R_new' (Kd.R_new' (Kd.R_new' ho0 (Kd.R_lt (rk_ HO682.out))) (Kd.R_lt (rk_ HO686.out))) (Kd.R_lt (rk_ HO690.out))) (below_size (bl_ HB.out))); have HO696 := Aside0.mk (Kd.R_lower (Kd.R_new' (Kd.R_new' (Kd.R_new' ho1 (Kd.R_lt (rk_ HO682.out))) (Kd.R_lt (rk_ HO686.out))) (Kd.R_lt (rk_ HO690.out))) (below_size (bl_ HB.out))); replace HO682 := Aside0.mk (Kd.R_mono (Kd.R_told (Kd.R_told (Kd.R_old (rk_ HO682.out) hb) (Kd.R_base ho0)) (Kd.R_base ho1)) (fun _ h_ => h_.1)); replace HO686 := Aside0.mk (Kd.R_mono (Kd.R_told (Kd.R_told (Kd.R_old (rk_ HO686.out) hb) (Kd.R_base ho0)) (Kd.R_base ho1)) (fun _ h_ => h_.1)); replace HO690 := Aside0.mk (Kd.R_mono (Kd.R_told (Kd.R_told (Kd.R_old (rk_ HO690.out) hb) (Kd.R_base ho0)) (Kd.R_base ho1)) (fun _ h_ => h_.1)); replace HB := Aside0.mk (below_step (bl_ HB.out) hb); (try clear hb); (try clear hb2); (try clear hk); (try clear hi); (try clear ho0); (try clear ho1); obtain ⟨Ao19, co19, eo19⟩ := Kd.R_slice HO694.out; subst eo19; obtain ⟨Ao20, co20, eo20⟩ := Kd.R_slice HO696.out; subst eo20) | ((with_reducible refine gate_callee (f := 50) rfl ?_); refine goesL_ (some 64) rfl rfl Try.func50 (by kernel_rfl) rfl #[.slice Ao19 t691.length co19, .slice Ao20 t692.length co20] rfl ag_ ?_; (with_reducible refine (impl_MergeTables.calls k _ _ t691 _ _ t692 t697 t698 _ ?side1 ?side2 ?side3 ?side4 A8.out).mono ?_); (case side1 => exact r6_ HO694.out); (case side2 => exact (Kd.R_reads' HO694.out).2.1); (case side3 => exact r6_ HO696.out); (case side4 => exact (Kd.R_reads' HO696.out).2.1); rintro e w21 ⟨v699, rfl, ho0, hb⟩; refine ⟨_, rfl, ?_⟩; have HO700 := Aside0.mk (Kd.R_lower (Kd.R_new' (Kd.R_new' (Kd.R_new' (Kd.R_new' (Kd.R_new' ho0 (Kd.R_lt (rk_ HO682.out))) (Kd.R_lt (rk_ HO686.out))) (Kd.R_lt (rk_ HO690.out))) (Kd.R_lt (rk_ HO694.out))) (Kd.R_lt (rk_ HO696.out))) (below_size (bl_ HB.out))); replace HO682 := Aside0.mk (Kd.R_elder' (rk_ HO682.out) (Kd.R_base ho0) hb); replace HO686 := Aside0.mk (Kd.R_elder' (rk_ HO686.out) (Kd.R_base ho0) hb); replace HO690 := Aside0.mk (Kd.R_elder' (rk_ HO690.out) (Kd.R_base ho0) hb); replace HO694 := Aside0.mk (Kd.R_elder' (rk_ HO694.out) (Kd.R_base ho0) hb); replace HO696 := Aside0.mk (Kd.R_elder' (rk_ HO696.out) (Kd.R_base ho0) hb); replace HB := Aside0.mk (below_step (bl_ HB.out) hb); (try clear hb); (try clear hb2); (try clear hk); (try clear hi); (try clear ho0)) | ((with_reducible refine gate_callee (f := 51) rfl ?_); refine goesL_ (some 70) rfl rfl Try.func51 (by kernel_rfl) rfl #[.slice Ao19 t691.length co19, .slice Ao20 t692.length co20] rfl ag_ ?_; (with_reducible refine (spec_MergeTables.calls k _ _ t691 _ _ t692 t701 t702 _ ?side1 ?side2 ?side3 ?side4 A9.out).mono ?_); (case side1 => exact r6_ HO694.out); (case side2 => exact (Kd.R_reads' HO694.out).2.1); (case side3 => exact r6_ HO696.out); (case side4 => exact (Kd.R_reads' HO696.out).2.1); rintro e w22 ⟨v703, rfl, ho0, hb⟩; refine ⟨_, rfl, ?_⟩; have HO704 := Aside0.mk (Kd.R_lower (Kd.R_new' (Kd.R_new' (Kd.R_new' (Kd.R_new' (Kd.R_new' (Kd.R_new' ho0 (Kd.R_lt (rk_ HO682.out))) (Kd.R_lt (rk_ HO686.out))) (Kd.R_lt (rk_ HO690.out))) (Kd.R_lt (rk_ HO694.out))) (Kd.R_lt (rk_ HO696.out))) (Kd.R_lt (rk_ HO700.out))) (below_size (bl_ HB.out))); replace HO682 := Aside0.mk (Kd.R_elder' (rk_ HO682.out) (Kd.R_base ho0) hb); replace HO686 := Aside0.mk (Kd.R_elder' (rk_ HO686.out) (Kd.R_base ho0) hb); replace HO690 := Aside0.mk (Kd.R_elder' (rk_ HO690.out) (Kd.R_base ho0) hb); replace HO694 := Aside0.mk (Kd.R_elder' (rk_ HO694.out) (Kd.R_base ho0) hb); replace HO696 := Aside0.mk (Kd.R_elder' (rk_ HO696.out) (Kd.R_base ho0) hb); replace HO700 := Aside0.mk (Kd.R_elder' (rk_ HO700.out) (Kd.R_base ho0) hb); replace HB := Aside0.mk (below_step (bl_ HB.out) hb); (try clear hb); (try clear hb2); (try clear hk); (try clear hi); (try clear ho0)) | ((with_reducible refine gate_callee (f := 52) rfl ?_); refine goesL_ (some 75) rfl rfl Try.func52 (by kernel_rfl) rfl #[.slice A0 l0.length c0] rfl ag_ ?_; (with_reducible refine (spec_DrawAllowedPlaces.calls k _ _ l0 t705 t706 t707 t708 t709 _ ?side1 ?side2 A10.out).mono ?_); (case side1 => exact r7_ HR0.out HB.out); (case side2 => exact HC0.out); rintro e w23 ⟨v710, v712, v714, v716, rfl, ho0, ho1, ho2, ho3, hb⟩; refine ⟨_, rfl, ?_⟩; have HO711 := Aside0.mk (Kd.R_lower (Kd.R_new' (Kd.R_new' (Kd.R_new' (Kd.R_new' (Kd.R_new' (Kd.R_new' (Kd.R_new' ho0 (Kd.R_lt (rk_ HO682.out))) (Kd.R_lt (rk_ HO686.out))) (Kd.R_lt (rk_ HO690.out))) (Kd.R_lt (rk_ HO694.out))) (Kd.R_lt (rk_ HO696.out))) (Kd.R_lt (rk_ HO700.out))) (Kd.R_lt (rk_ HO704.out))) (below_size (bl_ HB.out))); replace HO682 := Aside0.mk (Kd.R_elder' (rk_ HO682.out) (Kd.R_base ho0) hb); replace HO686 := Aside0.mk (Kd.R_elder' (rk_ HO686.out) (Kd.R_base ho0) hb); replace HO690 := Aside0.mk (Kd.R_elder' (rk_ HO690.out) (Kd.R_base ho0) hb); replace HO694 := Aside0.mk (Kd.R_elder' (rk_ HO694.out) (Kd.R_base ho0) hb); replace HO696 := Aside0.mk (Kd.R_elder' (rk_ HO696.out) (Kd.R_base ho0) hb); replace HO700 := Aside0.mk (Kd.R_elder' (rk_ HO700.out) (Kd.R_base ho0) hb); replace HO704 := Aside0.mk (Kd.R_elder' (rk_ HO704.out) (Kd.R_base ho0) hb); have HO713 := Aside0.mk (Kd.R_lower ho1 (below_size (bl_ HB.out))); have HO715 := Aside0.mk (Kd.R_lower ho2 (below_size (bl_ HB.out))); have HO717 := Aside0.mk (Kd.R_lower ho3 (below_size (bl_ HB.out))); replace HB := Aside0.mk (below_step (bl_ HB.out) hb); (try clear hb); (try clear hb2); (try clear hk); (try clear hi); (try clear ho0); (try clear ho1); (try clear ho2); (try clear ho3); obtain ⟨Ao24, co24, eo24⟩ := Kd.R_slice HO711.out; subst eo24; obtain ⟨Ao25, co25, eo25⟩ := Kd.R_slice HO713.out; subst eo25; obtain ⟨Ao26, co26, eo26⟩ := Kd.R_slice HO715.out; subst eo26; obtain ⟨Ao27, co27, eo27⟩ := Kd.R_slice HO717.out; subst eo27) | ((with_reducible refine gate_callee (f := 20) rfl ?_); refine goesL_ (some 87) rfl rfl Try.func20 (by kernel_rfl) rfl #[.slice Ao24 t705.length co24, .slice Ao25 t706.length co25, .int .i64 t707, .slice Ao26 t708.length co26, .slice Ao27 t709.length co27] rfl ag_ ?_; (with_reducible refine (impl_AllowedPlaces.calls k _ _ t705 _ _ t706 t707 _ _ t708 _ _ t709 t718 t719 _ ?side1 ?side2 ?side3 ?side4 ?side5 ?side6 ?side7 ?side8 A11.out).mono ?_); (case side1 => exact r6_ HO711.out); (case side2 => exact (Kd.R_reads' HO711.out).2.1); (case side3 => exact r6_ HO713.out); (case side4 => exact (Kd.R_reads' HO713.out).2.1); (case side5 => exact r6_ HO715.out); (case side6 => exact (Kd.R_reads' HO715.out).2.1); (case side7 => exact r6_ HO717.out); (case side8 => exact (Kd.R_reads' HO717.out).2.1); rintro e w28 ⟨v720, rfl, ho0, hb⟩; refine ⟨_, rfl, ?_⟩; replace HO682 := Aside0.mk (Kd.R_below (rk_ HO682.out) hb); replace HO686 := Aside0.mk (Kd.R_below (rk_ HO686.out) hb); replace HO690 := Aside0.mk (Kd.R_below (rk_ HO690.out) hb); replace HO694 := Aside0.mk (Kd.R_below (rk_ HO694.out) hb); replace HO696 := Aside0.mk (Kd.R_below (rk_ HO696.out) hb); replace HO700 := Aside0.mk (Kd.R_below (rk_ HO700.out) hb); replace HO704 := Aside0.mk (Kd.R_below (rk_ HO704.out) hb); replace HO711 := Aside0.mk (Kd.R_below (rk_ HO711.out) hb); replace HO713 := Aside0.mk (Kd.R_below (rk_ HO713.out) hb); have HO721 := Aside0.mk (Kd.R_lower (Kd.R_new' (Kd.R_new' ho0 (Kd.R_lt (rk_ HO715.out))) (Kd.R_lt (rk_ HO717.out))) (below_size (bl_ HB.out))); replace HO715 := Aside0.mk (Kd.R_elder' (rk_ HO715.out) (Kd.R_base ho0) hb); replace HO717 := Aside0.mk (Kd.R_elder' (rk_ HO717.out) (Kd.R_base ho0) hb); replace HB := Aside0.mk (below_step (bl_ HB.out) hb); (try clear hb); (try clear hb2); (try clear hk); (try clear hi); (try clear ho0)) | ((with_reducible refine gate_callee (f := 16) rfl ?_); refine goesL_ (some 96) rfl rfl Try.func16 (by kernel_rfl) rfl #[.slice Ao24 t705.length co24, .slice Ao25 t706.length co25, .int .i64 t707, .slice Ao26 t708.length co26, .slice Ao27 t709.length co27] rfl ag_ ?_; (with_reducible refine (spec_AllowedPlaces.calls k _ _ t705 _ _ t706 t707 _ _ t708 _ _ t709 t722 t723 _ ?side1 ?side2 ?side3 ?side4 ?side5 ?side6 ?side7 ?side8 A12.out).mono ?_); (case side1 => exact r6_ HO711.out); (case side2 => exact (Kd.R_reads' HO711.out).2.1); (case side3 => exact r6_ HO713.out); (case side4 => exact (Kd.R_reads' HO713.out).2.1); (case side5 => exact r6_ HO715.out); (case side6 => exact (Kd.R_reads' HO715.out).2.1); (case side7 => exact r6_ HO717.out); (case side8 => exact (Kd.R_reads' HO717.out).2.1); rintro e w29 ⟨v724, rfl, ho0, hb⟩; refine ⟨_, rfl, ?_⟩; have n0_ := Aside0.mk (Kd.R_below (rk_ HO682.out) hb); have n1_ := Aside0.mk (Kd.R_below (rk_ HO686.out) hb); have n2_ := Aside0.mk (Kd.R_below (rk_ HO690.out) hb); have n3_ := Aside0.mk (Kd.R_below (rk_ HO694.out) hb); have n4_ := Aside0.mk (Kd.R_below (rk_ HO696.out) hb); have n5_ := Aside0.mk (Kd.R_below (rk_ HO700.out) hb); have n6_ := Aside0.mk (Kd.R_below (rk_ HO704.out) hb); have n7_ := Aside0.mk (Kd.R_below (rk_ HO711.out) hb); have n8_ := Aside0.mk (Kd.R_below (rk_ HO713.out) hb); have n9_ := Aside0.mk (Kd.R_elder' (rk_ HO715.out) (Kd.R_base ho0) hb); have n10_ := Aside0.mk (Kd.R_elder' (rk_ HO717.out) (Kd.R_base ho0) hb); have n11_ := Aside0.mk (Kd.R_elder' (rk_ HO721.out) (Kd.R_base ho0) hb); have n12_ := Aside0.mk (Kd.R_lower (Kd.R_new' (Kd.R_new' (Kd.R_new' ho0 (Kd.R_lt (rk_ HO715.out))) (Kd.R_lt (rk_ HO717.out))) (Kd.R_lt (rk_ HO721.out))) (below_size (bl_ HB.out))); have n13_ := Aside0.mk (below_step (bl_ HB.out) hb); clear HO682; clear HO686; clear HO690; clear HO694; clear HO696; clear HO700; clear HO704; clear HO711; clear HO713; clear HO715; clear HO717; clear HO721; clear HB; have HO682 := n0_; have HO686 := n1_; have HO690 := n2_; have HO694 := n3_; have HO696 := n4_; have HO700 := n5_; have HO704 := n6_; have HO711 := n7_; have HO713 := n8_; have HO715 := n9_; have HO717 := n10_; have HO721 := n11_; have HO725 := n12_; have HB := n13_; clear n0_ n1_ n2_ n3_ n4_ n5_ n6_ n7_ n8_ n9_ n10_ n11_ n12_ n13_; (try clear hb); (try clear hb2); (try clear hk); (try clear hi); (try clear ho0)))
  (try simp only [Act.put, List.setIfInBounds_toArray, List.set_cons_zero, List.set_cons_succ])
  go_cut [136] (fun v136 wc => ∃ (kq : Nat) (x136_12 : Bool), v136 = .bool x136_12 ∧ Aside0 (laws_FnTables.j0 kq l0 t679 t683 t684 t691 t692 t697 t698 t705 t706 t707 t708 t709 t718 t719 x136_12 = some r) ∧ Aside0 (kq ≤ k) ∧ Aside0 (Kd.R k81 81 wc w.heap.size (fun k_ => some k_ ≠ (v685 : Value).ownBlock ∧ some k_ ≠ ((.slice Ao19 t691.length co19) : Value).ownBlock ∧ some k_ ≠ ((.slice Ao20 t692.length co20) : Value).ownBlock ∧ some k_ ≠ (v699 : Value).ownBlock ∧ some k_ ≠ ((.slice Ao24 t705.length co24) : Value).ownBlock) (.slice Ao15 t679.length co15) t679) ∧ Aside0 (Kd.R k81 81 wc w.heap.size (fun k_ => some k_ ≠ ((.slice Ao15 t679.length co15) : Value).ownBlock ∧ some k_ ≠ ((.slice Ao19 t691.length co19) : Value).ownBlock ∧ some k_ ≠ ((.slice Ao20 t692.length co20) : Value).ownBlock ∧ some k_ ≠ (v699 : Value).ownBlock ∧ some k_ ≠ ((.slice Ao24 t705.length co24) : Value).ownBlock) v685 t683) ∧ Aside0 (Kd.R k81 81 wc w.heap.size (fun k_ => some k_ ≠ ((.slice Ao15 t679.length co15) : Value).ownBlock ∧ some k_ ≠ (v685 : Value).ownBlock ∧ some k_ ≠ ((.slice Ao20 t692.length co20) : Value).ownBlock ∧ some k_ ≠ (v699 : Value).ownBlock ∧ some k_ ≠ ((.slice Ao24 t705.length co24) : Value).ownBlock) (.slice Ao19 t691.length co19) t691) ∧ Aside0 (Kd.R k81 81 wc w.heap.size (fun k_ => some k_ ≠ ((.slice Ao15 t679.length co15) : Value).ownBlock ∧ some k_ ≠ (v685 : Value).ownBlock ∧ some k_ ≠ ((.slice Ao19 t691.length co19) : Value).ownBlock ∧ some k_ ≠ (v699 : Value).ownBlock ∧ some k_ ≠ ((.slice Ao24 t705.length co24) : Value).ownBlock) (.slice Ao20 t692.length co20) t692) ∧ Aside0 (Kd.R k81 81 wc w.heap.size (fun k_ => some k_ ≠ ((.slice Ao15 t679.length co15) : Value).ownBlock ∧ some k_ ≠ (v685 : Value).ownBlock ∧ some k_ ≠ ((.slice Ao19 t691.length co19) : Value).ownBlock ∧ some k_ ≠ ((.slice Ao20 t692.length co20) : Value).ownBlock ∧ some k_ ≠ ((.slice Ao24 t705.length co24) : Value).ownBlock) v699 t697) ∧ Aside0 (Kd.R k81 81 wc w.heap.size (fun k_ => some k_ ≠ ((.slice Ao15 t679.length co15) : Value).ownBlock ∧ some k_ ≠ (v685 : Value).ownBlock ∧ some k_ ≠ ((.slice Ao19 t691.length co19) : Value).ownBlock ∧ some k_ ≠ ((.slice Ao20 t692.length co20) : Value).ownBlock ∧ some k_ ≠ (v699 : Value).ownBlock) (.slice Ao24 t705.length co24) t705) ∧ Aside0 (Kd.R k83 83 wc w.heap.size (fun _ => True) (.slice Ao25 t706.length co25) t706) ∧ Aside0 (Kd.R (Kd.int .i64) 2 wc w.heap.size (fun k_ => some k_ ≠ ((.slice Ao27 t709.length co27) : Value).ownBlock ∧ some k_ ≠ (v720 : Value).ownBlock) (.slice Ao26 t708.length co26) t708) ∧ Aside0 (Kd.R (Kd.int .i64) 2 wc w.heap.size (fun k_ => some k_ ≠ ((.slice Ao26 t708.length co26) : Value).ownBlock ∧ some k_ ≠ (v720 : Value).ownBlock) (.slice Ao27 t709.length co27) t709) ∧ Aside0 (Kd.R (Kd.int .i64) 2 wc w.heap.size (fun k_ => some k_ ≠ ((.slice Ao26 t708.length co26) : Value).ownBlock ∧ some k_ ≠ ((.slice Ao27 t709.length co27) : Value).ownBlock) v720 t718) ∧ Aside0 (Below w.heap.size w wc))
  case first =>
   as_aux_lemma =>
    have H := HC13.out
    clear HC13
    by_cases c30 : t684 = t688
    case neg =>
     rw [if_neg c30] at H
     have c30b0 := beq_eq_false_iff_ne.mpr c30
     have c30b1 := bne_iff_ne.mpr c30
     (first | rw [c30b0] | (simp only [i64_w, i32_w]; rw [c30b0]) | skip)
     exact absurd ((laws_FnTables.j0_true H).trans hT) (by decide)
    rw [if_pos c30] at H
    have c30b0 := beq_iff_eq.mpr c30
    have c30b1 := bne_eq_false_iff_eq.mpr c30
    clear c30
    (first | rw [c30b0] | (simp only [i64_w, i32_w]; rw [c30b0]) | skip)
    replace H := Option.bind_eq_some_iff.mp H
    obtain ⟨t726, A310, H⟩ := H
    try dsimp only at H
    have A31 := Aside0.mk A310
    clear A310
    by_cases c32 : t726 = true
    case neg =>
     replace c32 := Bool.eq_false_iff.mpr c32
     subst c32
     rw [if_neg (show ¬ (false = true) by decide)] at H
     exact absurd ((laws_FnTables.j0_true H).trans hT) (by decide)
    subst c32
    rw [if_pos rfl] at H
    by_cases c33 : t698 = t702
    case neg =>
     rw [if_neg c33] at H
     have c33b0 := beq_eq_false_iff_ne.mpr c33
     have c33b1 := bne_iff_ne.mpr c33
     exact absurd ((laws_FnTables.j0_true H).trans hT) (by decide)
    rw [if_pos c33] at H
    have c33b0 := beq_iff_eq.mpr c33
    have c33b1 := bne_eq_false_iff_eq.mpr c33
    clear c33
    replace H := Option.bind_eq_some_iff.mp H
    obtain ⟨t727, A340, H⟩ := H
    try dsimp only at H
    have A34 := Aside0.mk A340
    clear A340
    by_cases c35 : t727 = true
    case neg =>
     replace c35 := Bool.eq_false_iff.mpr c35
     subst c35
     rw [if_neg (show ¬ (false = true) by decide)] at H
     exact absurd ((laws_FnTables.j0_true H).trans hT) (by decide)
    subst c35
    rw [if_pos rfl] at H
    by_cases c36 : t719 = t723
    case neg =>
     rw [if_neg c36] at H
     have c36b0 := beq_eq_false_iff_ne.mpr c36
     have c36b1 := bne_iff_ne.mpr c36
     exact absurd ((laws_FnTables.j0_true H).trans hT) (by decide)
    rw [if_pos c36] at H
    have c36b0 := beq_iff_eq.mpr c36
    have c36b1 := bne_eq_false_iff_eq.mpr c36
    clear c36
    replace H := Option.bind_eq_some_iff.mp H
    obtain ⟨t728, A370, H⟩ := H
    try dsimp only at H
    have A37 := Aside0.mk A370
    clear A370
    by_cases c38 : t728 = true
    case neg =>
     replace c38 := Bool.eq_false_iff.mpr c38
     subst c38
     rw [if_neg (show ¬ (false = true) by decide)] at H
     exact absurd ((laws_FnTables.j0_true H).trans hT) (by decide)
    subst c38
    rw [if_pos rfl] at H
    replace H := Option.bind_eq_some_iff.mp H
    obtain ⟨t729, A390, H⟩ := H
    try dsimp only at H
    have A39 := Aside0.mk A390
    clear A390
    have H' := Aside0.mk H
    clear H
    obtain ⟨Ao40, co40, eo40⟩ := Kd.R_slice HO686.out
    subst eo40
    obtain ⟨Ao41, co41, eo41⟩ := Kd.R_slice HO690.out
    subst eo41
    go_wp2_with (first | (go_at_call 53; (with_reducible refine (laws_likeDemands.calls k _ _ t683 _ _ t687 true _ ?side1 ?side2 ?side3 ?side4 A31.out).mono ?_); (case side1 => exact r6_ HO686.out); (case side2 => exact (Kd.R_reads' HO686.out).2.1); (case side3 => exact r6_ HO690.out); (case side4 => exact (Kd.R_reads' HO690.out).2.1); rintro e w' ⟨rfl, ⟨nd, rfl⟩⟩; obtain ⟨Ao42, co42, eo42⟩ := Kd.R_slice HO700.out; subst eo42; obtain ⟨Ao43, co43, eo43⟩ := Kd.R_slice HO704.out; subst eo43) | (go_at_call 53; (with_reducible refine (laws_likeDemands.calls k _ _ t697 _ _ t701 true _ ?side1 ?side2 ?side3 ?side4 A34.out).mono ?_); (case side1 => exact r6_ HO700.out); (case side2 => exact (Kd.R_reads' HO700.out).2.1); (case side3 => exact r6_ HO704.out); (case side4 => exact (Kd.R_reads' HO704.out).2.1); rintro e w' ⟨rfl, ⟨nd, rfl⟩⟩; obtain ⟨Ao44, co44, eo44⟩ := Kd.R_slice HO721.out; subst eo44; obtain ⟨Ao45, co45, eo45⟩ := Kd.R_slice HO725.out; subst eo45) | (go_at_call 43; (with_reducible refine (laws_likeInts.calls k _ _ t718 _ _ t722 true _ ?side1 ?side2 ?side3 ?side4 A37.out).mono ?_); (case side1 => exact r6_ HO721.out); (case side2 => exact (Kd.R_reads' HO721.out).2.1); (case side3 => exact r6_ HO725.out); (case side4 => exact (Kd.R_reads' HO725.out).2.1); rintro e w' ⟨rfl, ⟨nd, rfl⟩⟩) | (go_at_call 54; (with_reducible refine (impl_IsTable.calls k _ _ t679 t729 _ ?side1 ?side2 A39.out).mono ?_); (case side1 => exact r6_ HO682.out); (case side2 => exact (Kd.R_reads' HO682.out).2.1); rintro e w46 ⟨rfl, hb⟩; have n0_ := Aside0.mk (Kd.R_below (rk_ HO682.out) hb); have n1_ := Aside0.mk (Kd.R_below (rk_ HO686.out) hb); have n2_ := Aside0.mk (Kd.R_below (rk_ HO690.out) hb); have n3_ := Aside0.mk (Kd.R_below (rk_ HO694.out) hb); have n4_ := Aside0.mk (Kd.R_below (rk_ HO696.out) hb); have n5_ := Aside0.mk (Kd.R_below (rk_ HO700.out) hb); have n6_ := Aside0.mk (Kd.R_below (rk_ HO704.out) hb); have n7_ := Aside0.mk (Kd.R_below (rk_ HO711.out) hb); have n8_ := Aside0.mk (Kd.R_below (rk_ HO713.out) hb); have n9_ := Aside0.mk (Kd.R_below (rk_ HO715.out) hb); have n10_ := Aside0.mk (Kd.R_below (rk_ HO717.out) hb); have n11_ := Aside0.mk (Kd.R_below (rk_ HO721.out) hb); have n12_ := Aside0.mk (Kd.R_below (rk_ HO725.out) hb); have n13_ := Aside0.mk (below_step (bl_ HB.out) hb); clear HO682; clear HO686; clear HO690; clear HO694; clear HO696; clear HO700; clear HO704; clear HO711; clear HO713; clear HO715; clear HO717; clear HO721; clear HO725; clear HB; have HO682 := n0_; have HO686 := n1_; have HO690 := n2_; have HO694 := n3_; have HO696 := n4_; have HO700 := n5_; have HO704 := n6_; have HO711 := n7_; have HO713 := n8_; have HO715 := n9_; have HO717 := n10_; have HO721 := n11_; have HO725 := n12_; have HB := n13_; clear n0_ n1_ n2_ n3_ n4_ n5_ n6_ n7_ n8_ n9_ n10_ n11_ n12_ n13_; (try clear hb); (try clear hb2); (try clear hk); (try clear hi)))
    go_meet
    case rel => exact ⟨_, ((t729 != (t688 != 1))), rs_, H', ⟨by first | omega | exact Nat.le_refl _⟩, ⟨rk_ (Kd.R_mono HO682.out (fun _ hk => ⟨hk.1.1.1.1.1.1.2, ⟨hk.1.1.1.1.2, ⟨hk.1.1.1.2, ⟨hk.1.1.2, hk.2⟩⟩⟩⟩))⟩, ⟨rk_ (Kd.R_mono HO686.out (fun _ hk => ⟨hk.1.1.1.1.1.1.2, ⟨hk.1.1.1.1.2, ⟨hk.1.1.1.2, ⟨hk.1.1.2, hk.2⟩⟩⟩⟩))⟩, ⟨rk_ (Kd.R_mono HO694.out (fun _ hk => ⟨hk.1.1.1.1.1.2, ⟨hk.1.1.1.1.2, ⟨hk.1.1.1.1.1.1, ⟨hk.1.1.2, hk.2⟩⟩⟩⟩))⟩, ⟨rk_ (Kd.R_mono HO696.out (fun _ hk => ⟨hk.1.1.1.1.1.2, ⟨hk.1.1.1.1.2, ⟨hk.1.1.1.1.1.1, ⟨hk.1.1.2, hk.2⟩⟩⟩⟩))⟩, ⟨rk_ (Kd.R_mono HO700.out (fun _ hk => ⟨hk.1.1.1.1.1.1.2, ⟨hk.1.1.1.1.1.2, ⟨hk.1.1.1.2, ⟨hk.1.1.2, hk.2⟩⟩⟩⟩))⟩, ⟨rk_ (Kd.R_mono HO711.out (fun _ hk => ⟨hk.1.1.1.1.1.1.2, ⟨hk.1.1.1.1.1.2, ⟨hk.1.1.1.2, ⟨hk.1.1.2, hk.1.2⟩⟩⟩⟩))⟩, ⟨rk_ HO713.out⟩, ⟨rk_ (Kd.R_mono HO715.out (fun _ hk => ⟨hk.1.1, hk.1.2⟩))⟩, ⟨rk_ (Kd.R_mono HO717.out (fun _ hk => ⟨hk.1.1, hk.1.2⟩))⟩, ⟨rk_ (Kd.R_mono HO721.out (fun _ hk => ⟨hk.1.1.2, hk.1.2⟩))⟩, ⟨bl_ HB.out⟩⟩
  case rest =>
   as_aux_lemma =>
    clear HC13
    try clear c1
    try clear c2
    try clear p2
    try clear c3
    try clear c4
    try clear c5
    try clear c16
    try clear c20
    try clear c29
    try clear c30
    try clear c30b0
    try clear c30b1
    try clear c32
    try clear c33
    try clear c33b0
    try clear c33b1
    try clear c35
    try clear c36
    try clear c36b0
    try clear c36b1
    try clear c38
    try clear c46
    try clear c47
    try clear c48
    try clear c49
    try clear c50
    try clear c51
    try clear c52
    obtain ⟨kq, x136_12, rfl, HA, HJ12, HO_3, HO_5, HO_9, HO_10, HO_11, HO_15, HO_16, HO_18, HO_19, HO_20, HB⟩ := hcut
    cases kq with
    | zero => exact absurd HA.out (by simp [laws_FnTables.j0])
    | succ kj12 =>
     have H := HA.out
     clear HA
     simp only [laws_FnTables.j0] at H
     by_cases c65 : x136_12 = true
     case pos =>
      subst c65
      rw [if_pos rfl] at H
      exact absurd ((Option.some.inj H).trans hT) (by decide)
     replace c65 := Bool.eq_false_iff.mpr c65
     subst c65
     rw [if_neg (show ¬ (false = true) by decide)] at H
     have H' := Aside0.mk H
     clear H
     go_wp2
     go_loopg [24] kj12 (fun kq v24 w' => ∃ (x24_2 : Int), v24 = .int .i64 x24_2 ∧ Aside0 (laws_FnTables.l0 kq l0 t679 t683 t684 t691 t692 t697 t698 t705 t706 t707 t708 t709 t718 t719 x24_2 = some r) ∧ Aside0 (kq ≤ kj12) ∧ Aside0 (Kd.R k81 81 w' w.heap.size (fun k_ => some k_ ≠ (v685 : Value).ownBlock ∧ some k_ ≠ ((.slice Ao19 t691.length co19) : Value).ownBlock ∧ some k_ ≠ ((.slice Ao20 t692.length co20) : Value).ownBlock ∧ some k_ ≠ (v699 : Value).ownBlock ∧ some k_ ≠ ((.slice Ao24 t705.length co24) : Value).ownBlock) (.slice Ao15 t679.length co15) t679) ∧ Aside0 (Kd.R k81 81 w' w.heap.size (fun k_ => some k_ ≠ ((.slice Ao15 t679.length co15) : Value).ownBlock ∧ some k_ ≠ ((.slice Ao19 t691.length co19) : Value).ownBlock ∧ some k_ ≠ ((.slice Ao20 t692.length co20) : Value).ownBlock ∧ some k_ ≠ (v699 : Value).ownBlock ∧ some k_ ≠ ((.slice Ao24 t705.length co24) : Value).ownBlock) v685 t683) ∧ Aside0 (Kd.R k81 81 w' w.heap.size (fun k_ => some k_ ≠ ((.slice Ao15 t679.length co15) : Value).ownBlock ∧ some k_ ≠ (v685 : Value).ownBlock ∧ some k_ ≠ ((.slice Ao20 t692.length co20) : Value).ownBlock ∧ some k_ ≠ (v699 : Value).ownBlock ∧ some k_ ≠ ((.slice Ao24 t705.length co24) : Value).ownBlock) (.slice Ao19 t691.length co19) t691) ∧ Aside0 (Kd.R k81 81 w' w.heap.size (fun k_ => some k_ ≠ ((.slice Ao15 t679.length co15) : Value).ownBlock ∧ some k_ ≠ (v685 : Value).ownBlock ∧ some k_ ≠ ((.slice Ao19 t691.length co19) : Value).ownBlock ∧ some k_ ≠ (v699 : Value).ownBlock ∧ some k_ ≠ ((.slice Ao24 t705.length co24) : Value).ownBlock) (.slice Ao20 t692.length co20) t692) ∧ Aside0 (Kd.R k81 81 w' w.heap.size (fun k_ => some k_ ≠ ((.slice Ao15 t679.length co15) : Value).ownBlock ∧ some k_ ≠ (v685 : Value).ownBlock ∧ some k_ ≠ ((.slice Ao19 t691.length co19) : Value).ownBlock ∧ some k_ ≠ ((.slice Ao20 t692.length co20) : Value).ownBlock ∧ some k_ ≠ ((.slice Ao24 t705.length co24) : Value).ownBlock) v699 t697) ∧ Aside0 (Kd.R k81 81 w' w.heap.size (fun k_ => some k_ ≠ ((.slice Ao15 t679.length co15) : Value).ownBlock ∧ some k_ ≠ (v685 : Value).ownBlock ∧ some k_ ≠ ((.slice Ao19 t691.length co19) : Value).ownBlock ∧ some k_ ≠ ((.slice Ao20 t692.length co20) : Value).ownBlock ∧ some k_ ≠ (v699 : Value).ownBlock) (.slice Ao24 t705.length co24) t705) ∧ Aside0 (Kd.R k83 83 w' w.heap.size (fun _ => True) (.slice Ao25 t706.length co25) t706) ∧ Aside0 (Kd.R (Kd.int .i64) 2 w' w.heap.size (fun k_ => some k_ ≠ ((.slice Ao27 t709.length co27) : Value).ownBlock ∧ some k_ ≠ (v720 : Value).ownBlock) (.slice Ao26 t708.length co26) t708) ∧ Aside0 (Kd.R (Kd.int .i64) 2 w' w.heap.size (fun k_ => some k_ ≠ ((.slice Ao26 t708.length co26) : Value).ownBlock ∧ some k_ ≠ (v720 : Value).ownBlock) (.slice Ao27 t709.length co27) t709) ∧ Aside0 (Kd.R (Kd.int .i64) 2 w' w.heap.size (fun k_ => some k_ ≠ ((.slice Ao26 t708.length co26) : Value).ownBlock ∧ some k_ ≠ ((.slice Ao27 t709.length co27) : Value).ownBlock) v720 t718) ∧ Aside0 (Below w.heap.size w w'))
     case atStart => exact ⟨(0), rs_, H', ⟨Nat.le_refl _⟩, ⟨rk_ HO_3.out⟩, ⟨rk_ HO_5.out⟩, ⟨rk_ HO_9.out⟩, ⟨rk_ HO_10.out⟩, ⟨rk_ HO_11.out⟩, ⟨rk_ HO_15.out⟩, ⟨rk_ HO_16.out⟩, ⟨rk_ HO_18.out⟩, ⟨rk_ HO_19.out⟩, ⟨rk_ HO_20.out⟩, ⟨bl_ HB.out⟩⟩
     case round =>
      clear H'
      try clear c1
      try clear c2
      try clear p2
      try clear c3
      try clear c4
      try clear c5
      try clear c6
      try clear c16
      try clear c20
      try clear c29
      try clear c30
      try clear c30b0
      try clear c30b1
      try clear c32
      try clear c33
      try clear c33b0
      try clear c33b1
      try clear c35
      try clear c36
      try clear c36b0
      try clear c36b1
      try clear c38
      try clear c46
      try clear c47
      try clear c48
      try clear c49
      try clear c50
      try clear c51
      try clear c52
      try clear c65
      try clear p2
      obtain ⟨x24_2, rfl, HA, HK2, HO_3, HO_5, HO_9, HO_10, HO_11, HO_15, HO_16, HO_18, HO_19, HO_20, HB⟩ := hrel
      cases gk with
      | zero => exact absurd HA.out (by simp [laws_FnTables.l0])
      | succ k2 =>
       have H := HA.out
       clear HA
       simp only [laws_FnTables.l0] at H
       have HC66 := Aside0.mk H
       clear H
       go_upto_region 15 with (fail)
       go_cut [144] (fun v144 wc => ∃ (kq : Nat) (x144_65 : Bool), v144 = .bool x144_65 ∧ Aside0 (laws_FnTables.j2 kq l0 t679 t683 t684 t691 t692 t697 t698 t705 t706 t707 t708 t709 t718 t719 x24_2 x144_65 = some r) ∧ Aside0 (kq ≤ k2) ∧ Aside0 (Kd.R k81 81 wc w.heap.size (fun k_ => some k_ ≠ (v685 : Value).ownBlock ∧ some k_ ≠ ((.slice Ao19 t691.length co19) : Value).ownBlock ∧ some k_ ≠ ((.slice Ao20 t692.length co20) : Value).ownBlock ∧ some k_ ≠ (v699 : Value).ownBlock ∧ some k_ ≠ ((.slice Ao24 t705.length co24) : Value).ownBlock) (.slice Ao15 t679.length co15) t679) ∧ Aside0 (Kd.R k81 81 wc w.heap.size (fun k_ => some k_ ≠ ((.slice Ao15 t679.length co15) : Value).ownBlock ∧ some k_ ≠ ((.slice Ao19 t691.length co19) : Value).ownBlock ∧ some k_ ≠ ((.slice Ao20 t692.length co20) : Value).ownBlock ∧ some k_ ≠ (v699 : Value).ownBlock ∧ some k_ ≠ ((.slice Ao24 t705.length co24) : Value).ownBlock) v685 t683) ∧ Aside0 (Kd.R k81 81 wc w.heap.size (fun k_ => some k_ ≠ ((.slice Ao15 t679.length co15) : Value).ownBlock ∧ some k_ ≠ (v685 : Value).ownBlock ∧ some k_ ≠ ((.slice Ao20 t692.length co20) : Value).ownBlock ∧ some k_ ≠ (v699 : Value).ownBlock ∧ some k_ ≠ ((.slice Ao24 t705.length co24) : Value).ownBlock) (.slice Ao19 t691.length co19) t691) ∧ Aside0 (Kd.R k81 81 wc w.heap.size (fun k_ => some k_ ≠ ((.slice Ao15 t679.length co15) : Value).ownBlock ∧ some k_ ≠ (v685 : Value).ownBlock ∧ some k_ ≠ ((.slice Ao19 t691.length co19) : Value).ownBlock ∧ some k_ ≠ (v699 : Value).ownBlock ∧ some k_ ≠ ((.slice Ao24 t705.length co24) : Value).ownBlock) (.slice Ao20 t692.length co20) t692) ∧ Aside0 (Kd.R k81 81 wc w.heap.size (fun k_ => some k_ ≠ ((.slice Ao15 t679.length co15) : Value).ownBlock ∧ some k_ ≠ (v685 : Value).ownBlock ∧ some k_ ≠ ((.slice Ao19 t691.length co19) : Value).ownBlock ∧ some k_ ≠ ((.slice Ao20 t692.length co20) : Value).ownBlock ∧ some k_ ≠ ((.slice Ao24 t705.length co24) : Value).ownBlock) v699 t697) ∧ Aside0 (Kd.R k81 81 wc w.heap.size (fun k_ => some k_ ≠ ((.slice Ao15 t679.length co15) : Value).ownBlock ∧ some k_ ≠ (v685 : Value).ownBlock ∧ some k_ ≠ ((.slice Ao19 t691.length co19) : Value).ownBlock ∧ some k_ ≠ ((.slice Ao20 t692.length co20) : Value).ownBlock ∧ some k_ ≠ (v699 : Value).ownBlock) (.slice Ao24 t705.length co24) t705) ∧ Aside0 (Kd.R k83 83 wc w.heap.size (fun _ => True) (.slice Ao25 t706.length co25) t706) ∧ Aside0 (Kd.R (Kd.int .i64) 2 wc w.heap.size (fun k_ => some k_ ≠ ((.slice Ao27 t709.length co27) : Value).ownBlock ∧ some k_ ≠ (v720 : Value).ownBlock) (.slice Ao26 t708.length co26) t708) ∧ Aside0 (Kd.R (Kd.int .i64) 2 wc w.heap.size (fun k_ => some k_ ≠ ((.slice Ao26 t708.length co26) : Value).ownBlock ∧ some k_ ≠ (v720 : Value).ownBlock) (.slice Ao27 t709.length co27) t709) ∧ Aside0 (Kd.R (Kd.int .i64) 2 wc w.heap.size (fun k_ => some k_ ≠ ((.slice Ao26 t708.length co26) : Value).ownBlock ∧ some k_ ≠ ((.slice Ao27 t709.length co27) : Value).ownBlock) v720 t718) ∧ Aside0 (Below w.heap.size w wc))
       case first =>
        have H := HC66.out
        clear HC66
        by_cases c67 : t719 = 0
        case neg =>
         rw [if_neg c67] at H
         have c67b0 := beq_eq_false_iff_ne.mpr c67
         have c67b1 := bne_iff_ne.mpr c67
         (first | rw [c67b0] | (simp only [i64_w, i32_w]; rw [c67b0]) | skip)
         have H' := Aside0.mk H
         clear H
         go_wp2
         go_meet
         case rel => exact ⟨_, (false), rs_, H', ⟨by have := HJ12.out; have := HK2.out; first | omega | exact Nat.le_refl _⟩, ⟨rk_ HO_3.out⟩, ⟨rk_ HO_5.out⟩, ⟨rk_ HO_9.out⟩, ⟨rk_ HO_10.out⟩, ⟨rk_ HO_11.out⟩, ⟨rk_ HO_15.out⟩, ⟨rk_ HO_16.out⟩, ⟨rk_ HO_18.out⟩, ⟨rk_ HO_19.out⟩, ⟨rk_ HO_20.out⟩, ⟨bl_ HB.out⟩⟩
        rw [if_pos c67] at H
        have c67b0 := beq_iff_eq.mpr c67
        have c67b1 := bne_eq_false_iff_eq.mpr c67
        clear c67
        (first | rw [c67b0] | (simp only [i64_w, i32_w]; rw [c67b0]) | skip)
        have H' := Aside0.mk H
        clear H
        go_wp2
        go_meet
        case rel => exact ⟨_, (decide (x24_2 < (t708.length : Int))), rs_, H', ⟨by have := HJ12.out; have := HK2.out; first | omega | exact Nat.le_refl _⟩, ⟨rk_ HO_3.out⟩, ⟨rk_ HO_5.out⟩, ⟨rk_ HO_9.out⟩, ⟨rk_ HO_10.out⟩, ⟨rk_ HO_11.out⟩, ⟨rk_ HO_15.out⟩, ⟨rk_ HO_16.out⟩, ⟨rk_ HO_18.out⟩, ⟨rk_ HO_19.out⟩, ⟨rk_ HO_20.out⟩, ⟨bl_ HB.out⟩⟩
       case rest =>
        as_aux_lemma =>
         clear HC66
         try clear c1
         try clear c2
         try clear p2
         try clear c3
         try clear c4
         try clear c5
         try clear c6
         try clear c16
         try clear c20
         try clear c29
         try clear c30
         try clear c30b0
         try clear c30b1
         try clear c32
         try clear c33
         try clear c33b0
         try clear c33b1
         try clear c35
         try clear c36
         try clear c36b0
         try clear c36b1
         try clear c38
         try clear c46
         try clear c47
         try clear c48
         try clear c49
         try clear c50
         try clear c51
         try clear c52
         try clear c65
         try clear c67
         try clear c67b0
         try clear c67b1
         try clear p2
         obtain ⟨kq, x144_65, rfl, HA, HJ65, HO_3, HO_5, HO_9, HO_10, HO_11, HO_15, HO_16, HO_18, HO_19, HO_20, HB⟩ := hcut
         cases kq with
         | zero => exact absurd HA.out (by simp [laws_FnTables.j2])
         | succ kj65 =>
          have H := HA.out
          clear HA
          simp only [laws_FnTables.j2] at H
          by_cases c68 : x144_65 = true
          case pos =>
           as_aux_lemma =>
            subst c68
            rw [if_pos rfl] at H
            by_cases c69 : 0 ≤ x24_2
            case neg =>
             rw [if_neg c69] at H
             exact absurd H (by simp)
            rw [if_pos c69] at H
            have c69b0 := decide_eq_true c69
            clear c69
            by_cases c70 : x24_2 < (t708.length : Int)
            case neg =>
             rw [if_neg c70] at H
             exact absurd H (by simp)
            rw [if_pos c70] at H
            have c70b0 := decide_eq_true c70
            clear c70
            by_cases c71 : x24_2 < (t709.length : Int)
            case neg =>
             rw [if_neg c71] at H
             exact absurd H (by simp)
            rw [if_pos c71] at H
            have c71b0 := decide_eq_true c71
            clear c71
            replace H := Option.bind_eq_some_iff.mp H
            obtain ⟨⟨t732, t733⟩, A720, H⟩ := H
            try dsimp only at H
            have A72 := Aside0.mk A720
            clear A720
            by_cases c73 : t733 = 0
            case neg =>
             rw [if_neg c73] at H
             have c73b0 := beq_eq_false_iff_ne.mpr c73
             have c73b1 := bne_iff_ne.mpr c73
             exact absurd ((Option.some.inj H).trans hT) (by decide)
            rw [if_pos c73] at H
            have c73b0 := beq_iff_eq.mpr c73
            have c73b1 := bne_eq_false_iff_eq.mpr c73
            clear c73
            replace H := Option.bind_eq_some_iff.mp H
            obtain ⟨t734, A740, H⟩ := H
            try dsimp only at H
            have A74 := Aside0.mk A740
            clear A740
            by_cases c75 : (t732 != t734) = true
            case pos =>
             rw [if_pos c75] at H
             have c75b0 : (t732 != t734) = true := c75
             (try (have c75b1 : decide (t732 = t734) = false := by simpa using c75))
             (try (have c75b2 : (t732 == t734) = false := by simpa using c75))
             (try (have c75b3 : ¬ (t732 = t734) := by simpa using c75))
             clear c75
             exact absurd ((Option.some.inj H).trans hT) (by decide)
            rw [if_neg c75] at H
            have c75b0 : (t732 != t734) = false := by simpa using c75
            (try (have c75b1 : decide (t732 = t734) = true := by simpa using c75))
            (try (have c75b2 : (t732 == t734) = true := by simpa using c75))
            clear c75
            have H' := Aside0.mk H
            clear H
            try go_wp2
            replace HO_3 := Aside0.mk (Kd.R_drew HO_3.out)
            replace HO_5 := Aside0.mk (Kd.R_drew HO_5.out)
            replace HO_9 := Aside0.mk (Kd.R_drew HO_9.out)
            replace HO_10 := Aside0.mk (Kd.R_drew HO_10.out)
            replace HO_11 := Aside0.mk (Kd.R_drew HO_11.out)
            replace HO_15 := Aside0.mk (Kd.R_drew HO_15.out)
            replace HO_16 := Aside0.mk (Kd.R_drew HO_16.out)
            replace HO_18 := Aside0.mk (Kd.R_drew HO_18.out)
            replace HO_19 := Aside0.mk (Kd.R_drew HO_19.out)
            replace HO_20 := Aside0.mk (Kd.R_drew HO_20.out)
            replace HB := Aside0.mk (below_drew1 HB.out)
            have p730 : 0 ≤ (x24_2 : Int) := od_
            have q730 : x24_2 < (t708.length : Int) := od_
            obtain ⟨ad730, e730, hx730_0⟩ := Kd.at_int (Kd.R_reads' HO_18.out).2.2 x24_2 p730 q730
            cases e730
            replace p730 := eq_true p730
            replace q730 := eq_true q730
            have p731 : 0 ≤ (x24_2 : Int) := od_
            have q731 : x24_2 < (t709.length : Int) := od_
            obtain ⟨ad731, e731, hx731_0⟩ := Kd.at_int (Kd.R_reads' HO_19.out).2.2 x24_2 p731 q731
            cases e731
            replace p731 := eq_true p731
            replace q731 := eq_true q731
            refine start_ (n := 17) (S := fun w' => w'.cell? (ad730.add (x24_2).toNat) = some (.int .i64 (rd t708 x24_2)) ∧ w'.cell? (ad731.add (x24_2).toNat) = some (.int .i64 (rd t709 x24_2))) (ds := []) #[f_,f_,f_,f_,f_,f_,f_,f_,f_,f_,f_,f_,f_,f_,f_,f_,f_] (by kernel_rfl) rfl rfl ⟨hx730_0, hx731_0⟩ (fun hHeld => ?_); refine with_tabW laws_FnTables.tab17 laws_FnTables.bits17 (fun HT_ HW_ => ?_)
            generalize wc.drew = w79 at HO_3 HO_5 HO_9 HO_10 HO_11 HO_15 HO_16 HO_18 HO_19 HO_20 HB hx730_0 hx731_0 hHeld ⊢
            refine pv_ 0 148 HT_.out ?_
            refine pv_ 1 149 HT_.out ?_
            refine pv_ 2 150 HT_.out ?_
            refine pv_ 3 151 HT_.out ?_
            refine pv_ 4 152 HT_.out ?_
            refine pv_ 5 153 HT_.out ?_
            refine pv_ 7 155 HT_.out ?_
            refine pv_ 8 156 HT_.out ?_
            refine pv_ 9 157 HT_.out ?_
            refine tv2_ 6 154 HT_.out HW_.out hHeld ?_
            refine tk2_ 10 158 #[t_,t_,t_,t_,t_,t_,t_,t_,t_,t_,t_,f_,f_,f_,f_,f_,f_] HT_.out HW_.out hHeld ?_
            refine one_ (i := 11) (N := some 159) #[t_,t_,t_,t_,t_,t_,t_,t_,t_,t_,t_,t_,f_,f_,f_,f_,f_] rfl rfl (one_of HT_.out (by kernel_rfl)) (by decide) (fun K hK => ?_)
            refine goes_ Try.func55 (by kernel_rfl) rfl #[.slice Ao24 t705.length co24, .slice Ao25 t706.length co25, .int .i64 t707, .int .i64 (rd t708 x24_2), .int .i64 (rd t709 x24_2)] (by rfl) rfl rfl ag_ ?_
            with_reducible refine (impl_IsAllowed.calls kj65 _ _ t705 _ _ t706 t707 (rd t708 x24_2) (rd t709 x24_2) t732 t733 _ ?side1 ?side2 ?side3 ?side4 A72.out).mono ?_
            (case side1 => exact r6_ HO_15.out)
            (case side2 => exact (Kd.R_reads' HO_15.out).2.1)
            (case side3 => exact r6_ HO_16.out)
            (case side4 => exact (Kd.R_reads' HO_16.out).2.1)
            rintro e w80 ⟨rfl, hb⟩
            have HS0_ := (hb.cell (World.block_lt_of_cell? _ _ (hHeld.1))).trans (hHeld.1)
            have HS1_ := (hb.cell (World.block_lt_of_cell? _ _ (hHeld.2))).trans (hHeld.2)
            refine ⟨_, rfl, ?_⟩
            replace HO_3 := Aside0.mk (Kd.R_below (rk_ HO_3.out) hb)
            replace HO_5 := Aside0.mk (Kd.R_below (rk_ HO_5.out) hb)
            replace HO_9 := Aside0.mk (Kd.R_below (rk_ HO_9.out) hb)
            replace HO_10 := Aside0.mk (Kd.R_below (rk_ HO_10.out) hb)
            replace HO_11 := Aside0.mk (Kd.R_below (rk_ HO_11.out) hb)
            replace HO_15 := Aside0.mk (Kd.R_below (rk_ HO_15.out) hb)
            replace HO_16 := Aside0.mk (Kd.R_below (rk_ HO_16.out) hb)
            replace HO_18 := Aside0.mk (Kd.R_below (rk_ HO_18.out) hb)
            replace HO_19 := Aside0.mk (Kd.R_below (rk_ HO_19.out) hb)
            replace HO_20 := Aside0.mk (Kd.R_below (rk_ HO_20.out) hb)
            replace HB := Aside0.mk (below_step (bl_ HB.out) hb)
            (try clear hb)
            (try clear hb2)
            (try clear hk)
            (try clear hi)
            refine hK.out _ _ ⟨HS0_, HS1_⟩ (fun hHeld => ?_)
            clear hK K
            refine norm_ (a' := ?_) ?_ ?_
            rotate_left
            ·show Act.put _ (some 159) _ = _
             simp only [pz_]
             rfl
            refine pv_ 12 147 HT_.out ?_
            refine pv_ 13 160 HT_.out ?_
            refine pv_ 14 161 HT_.out ?_
            refine pv_ 15 25 HT_.out ?_
            refine pu_ 16 26 #[t_,t_,t_,t_,t_,t_,t_,t_,t_,t_,t_,t_,t_,t_,t_,t_,t_] HT_.out ?_
            refine done_ (done_of HT_.out (by kernel_rfl)) ?_
            obtain ⟨Ao81, co81, eo81⟩ := Kd.R_slice HO_20.out
            subst eo81
            try go_wp2_with (first | (go_at_call 56; (with_reducible refine (laws_hasInt.calls kj65 _ _ t718 x24_2 t734 _ ?side1 ?side2 A74.out).mono ?_); (case side1 => exact r6_ HO_20.out); (case side2 => exact (Kd.R_reads' HO_20.out).2.1); rintro e w' ⟨rfl, ⟨nd, rfl⟩⟩))
            go_roundg kj65
            case measure => have := HJ12.out; have := HK2.out; have := HJ65.out; omega
            case rel => exact ⟨(wrap64 (x24_2 + 1)), rs_, H', ⟨by have := HJ12.out; have := HK2.out; have := HJ65.out; omega⟩, ⟨rk_ HO_3.out⟩, ⟨rk_ HO_5.out⟩, ⟨rk_ HO_9.out⟩, ⟨rk_ HO_10.out⟩, ⟨rk_ HO_11.out⟩, ⟨rk_ HO_15.out⟩, ⟨rk_ HO_16.out⟩, ⟨rk_ HO_18.out⟩, ⟨rk_ HO_19.out⟩, ⟨rk_ HO_20.out⟩, ⟨bl_ HB.out⟩⟩
          as_aux_lemma =>
           replace c68 := Bool.eq_false_iff.mpr c68
           subst c68
           rw [if_neg (show ¬ (false = true) by decide)] at H
           have HC84 := Aside0.mk H
           clear H
           go_upto_if 172 with (fail)
           go_cut [] (fun wc => ∃ (kq : Nat), Aside0 (laws_FnTables.j3 kq t679 t683 t684 = some r) ∧ Aside0 (kq ≤ kj65) ∧ Aside0 (Kd.R k81 81 wc w.heap.size (fun k_ => some k_ ≠ (v685 : Value).ownBlock) (.slice Ao15 t679.length co15) t679) ∧ Aside0 (Kd.R k81 81 wc w.heap.size (fun k_ => some k_ ≠ ((.slice Ao15 t679.length co15) : Value).ownBlock) v685 t683) ∧ Aside0 (Below w.heap.size w wc))
           case first =>
            as_aux_lemma =>
             have H := HC84.out
             clear HC84
             by_cases c85 : t698 = 0
             case neg =>
              rw [if_neg c85] at H
              have c85b0 := beq_eq_false_iff_ne.mpr c85
              have c85b1 := bne_iff_ne.mpr c85
              (first | rw [c85b0] | (simp only [i64_w, i32_w]; rw [c85b0]) | skip)
              have H' := Aside0.mk H
              clear H
              go_wp2
              go_meet
              case rel => exact ⟨_, H', ⟨by have := HJ12.out; have := HK2.out; have := HJ65.out; first | omega | exact Nat.le_refl _⟩, ⟨rk_ (Kd.R_mono HO_3.out (fun _ hk => hk.1))⟩, ⟨rk_ (Kd.R_mono HO_5.out (fun _ hk => hk.1))⟩, ⟨bl_ HB.out⟩⟩
             rw [if_pos c85] at H
             have c85b0 := beq_iff_eq.mpr c85
             have c85b1 := bne_eq_false_iff_eq.mpr c85
             clear c85
             (first | rw [c85b0] | (simp only [i64_w, i32_w]; rw [c85b0]) | skip)
             replace H := Option.bind_eq_some_iff.mp H
             obtain ⟨⟨t735, t736, t737⟩, A860, H⟩ := H
             try dsimp only at H
             have A86 := Aside0.mk A860
             clear A860
             replace H := Option.bind_eq_some_iff.mp H
             obtain ⟨⟨t739, t740, t741⟩, A870, H⟩ := H
             try dsimp only at H
             have A87 := Aside0.mk A870
             clear A870
             replace H := Option.bind_eq_some_iff.mp H
             obtain ⟨⟨t742, t743, t744⟩, A880, H⟩ := H
             try dsimp only at H
             have A88 := Aside0.mk A880
             clear A880
             replace H := Option.bind_eq_some_iff.mp H
             obtain ⟨⟨t745, t746⟩, A890, H⟩ := H
             try dsimp only at H
             have A89 := Aside0.mk A890
             clear A890
             replace H := Option.bind_eq_some_iff.mp H
             obtain ⟨⟨t747, t748⟩, A900, H⟩ := H
             try dsimp only at H
             have A90 := Aside0.mk A900
             clear A900
             replace H := Option.bind_eq_some_iff.mp H
             obtain ⟨⟨t749, t750⟩, A910, H⟩ := H
             try dsimp only at H
             have A91 := Aside0.mk A910
             clear A910
             replace H := Option.bind_eq_some_iff.mp H
             obtain ⟨t751, A920, H⟩ := H
             try dsimp only at H
             have A92 := Aside0.mk A920
             clear A920
             by_cases c93 : t751 = true
             case neg =>
              replace c93 := Bool.eq_false_iff.mpr c93
              subst c93
              rw [if_neg (show ¬ (false = true) by decide)] at H
              exact absurd ((Option.some.inj H).trans hT) (by decide)
             subst c93
             rw [if_pos rfl] at H
             replace H := Option.bind_eq_some_iff.mp H
             obtain ⟨t752, A940, H⟩ := H
             try dsimp only at H
             have A94 := Aside0.mk A940
             clear A940
             by_cases c95 : t752 = true
             case pos =>
              as_aux_lemma =>
               subst c95
               rw [if_pos rfl] at H
               replace H := Option.bind_eq_some_iff.mp H
               obtain ⟨t753, A960, H⟩ := H
               try dsimp only at H
               have A96 := Aside0.mk A960
               clear A960
               by_cases c97 : t753 = true
               case pos =>
                subst c97
                rw [if_pos rfl] at H
                have H' := Aside0.mk H
                clear H
                go_wp2_with (first | ((with_reducible refine gate_callee (f := 57) rfl ?_); refine goesL_ (some 174) rfl rfl Try.func57 (by kernel_rfl) rfl #[.slice A0 l0.length c0, .int .u64 1601] rfl ag_ ?_; (with_reducible refine (laws_roll.calls kj65 _ _ l0 1601 t735 t736 t737 w _ ?side1 ?side2 ?side3 A86.out).mono ?_); (case side1 => exact r15_ HB.out); (case side2 => exact HR0.out); (case side3 => exact HC0.out); rintro e w98 ⟨g738, rfl, hi, hb, hb2⟩; refine ⟨_, rfl, ?_⟩; replace HO_3 := Aside0.mk (Kd.R_below (rk_ HO_3.out) hb2); replace HO_5 := Aside0.mk (Kd.R_below (rk_ HO_5.out) hb2); replace HO_9 := Aside0.mk (Kd.R_below (rk_ HO_9.out) hb2); replace HO_10 := Aside0.mk (Kd.R_below (rk_ HO_10.out) hb2); replace HO_11 := Aside0.mk (Kd.R_below (rk_ HO_11.out) hb2); replace HO_15 := Aside0.mk (Kd.R_below (rk_ HO_15.out) hb2); replace HO_16 := Aside0.mk (Kd.R_below (rk_ HO_16.out) hb2); replace HO_18 := Aside0.mk (Kd.R_below (rk_ HO_18.out) hb2); replace HO_19 := Aside0.mk (Kd.R_below (rk_ HO_19.out) hb2); replace HO_20 := Aside0.mk (Kd.R_below (rk_ HO_20.out) hb2); replace HB := Aside0.mk (hb); have HI738 := Aside0.mk (hi); (try clear hb); (try clear hb2); (try clear hk); (try clear hi)) | ((with_reducible refine gate_callee (f := 58) rfl ?_); refine goesL_ (some 176) rfl rfl Try.func58 (by kernel_rfl) rfl #[.pointer (some ⟨g738, 0, none⟩), .int .i64 281] rfl ag_ ?_; (with_reducible refine (laws_dice_below.calls g738 t735 t736 t737 281 t739 t740 t741 w _ ?side1 ?side2 A87.out).mono ?_); (case side1 => exact r4_ HI738.out); (case side2 => exact r8_ HB.out HI738.out); rintro e w99 ⟨rfl, hi, hb, hk⟩; refine ⟨_, rfl, ?_⟩; replace HO_3 := Aside0.mk (Kd.R_mono (Kd.R_keep (IsS176.apart (show IsS176 w _ g738 t735 t736 t737 from r4_ HI738.out) (rk_ HO_3.out) (by decide)) hk (fun _ h => h.2)) (fun _ h => h.1)); replace HO_5 := Aside0.mk (Kd.R_mono (Kd.R_keep (IsS176.apart (show IsS176 w _ g738 t735 t736 t737 from r4_ HI738.out) (rk_ HO_5.out) (by decide)) hk (fun _ h => h.2)) (fun _ h => h.1)); replace HO_9 := Aside0.mk (Kd.R_mono (Kd.R_keep (IsS176.apart (show IsS176 w _ g738 t735 t736 t737 from r4_ HI738.out) (rk_ HO_9.out) (by decide)) hk (fun _ h => h.2)) (fun _ h => h.1)); replace HO_10 := Aside0.mk (Kd.R_mono (Kd.R_keep (IsS176.apart (show IsS176 w _ g738 t735 t736 t737 from r4_ HI738.out) (rk_ HO_10.out) (by decide)) hk (fun _ h => h.2)) (fun _ h => h.1)); replace HO_11 := Aside0.mk (Kd.R_mono (Kd.R_keep (IsS176.apart (show IsS176 w _ g738 t735 t736 t737 from r4_ HI738.out) (rk_ HO_11.out) (by decide)) hk (fun _ h => h.2)) (fun _ h => h.1)); replace HO_15 := Aside0.mk (Kd.R_mono (Kd.R_keep (IsS176.apart (show IsS176 w _ g738 t735 t736 t737 from r4_ HI738.out) (rk_ HO_15.out) (by decide)) hk (fun _ h => h.2)) (fun _ h => h.1)); replace HO_16 := Aside0.mk (Kd.R_mono (Kd.R_keep (IsS176.apart (show IsS176 w _ g738 t735 t736 t737 from r4_ HI738.out) (rk_ HO_16.out) (by decide)) hk (fun _ h => h.2)) (fun _ h => h.1)); replace HO_18 := Aside0.mk (Kd.R_mono (Kd.R_keep (IsS176.apart (show IsS176 w _ g738 t735 t736 t737 from r4_ HI738.out) (rk_ HO_18.out) (by decide)) hk (fun _ h => h.2)) (fun _ h => h.1)); replace HO_19 := Aside0.mk (Kd.R_mono (Kd.R_keep (IsS176.apart (show IsS176 w _ g738 t735 t736 t737 from r4_ HI738.out) (rk_ HO_19.out) (by decide)) hk (fun _ h => h.2)) (fun _ h => h.1)); replace HO_20 := Aside0.mk (Kd.R_mono (Kd.R_keep (IsS176.apart (show IsS176 w _ g738 t735 t736 t737 from r4_ HI738.out) (rk_ HO_20.out) (by decide)) hk (fun _ h => h.2)) (fun _ h => h.1)); replace HB := Aside0.mk (hb); replace HI738 := Aside0.mk (hi); (try clear hb); (try clear hb2); (try clear hk); (try clear hi)) | ((with_reducible refine gate_callee (f := 58) rfl ?_); refine goesL_ (some 179) rfl rfl Try.func58 (by kernel_rfl) rfl #[.pointer (some ⟨g738, 0, none⟩), .int .i64 4] rfl ag_ ?_; (with_reducible refine (laws_dice_below.calls g738 t735 t740 t741 4 t742 t743 t744 w _ ?side1 ?side2 A88.out).mono ?_); (case side1 => exact r4_ HI738.out); (case side2 => exact r8_ HB.out HI738.out); rintro e w100 ⟨rfl, hi, hb, hk⟩; refine ⟨_, rfl, ?_⟩; replace HO_3 := Aside0.mk (Kd.R_mono (Kd.R_keep (IsS176.apart (show IsS176 w _ g738 t735 t740 t741 from r4_ HI738.out) (rk_ HO_3.out) (by decide)) hk (fun _ h => h.2)) (fun _ h => h.1)); replace HO_5 := Aside0.mk (Kd.R_mono (Kd.R_keep (IsS176.apart (show IsS176 w _ g738 t735 t740 t741 from r4_ HI738.out) (rk_ HO_5.out) (by decide)) hk (fun _ h => h.2)) (fun _ h => h.1)); replace HO_9 := Aside0.mk (Kd.R_mono (Kd.R_keep (IsS176.apart (show IsS176 w _ g738 t735 t740 t741 from r4_ HI738.out) (rk_ HO_9.out) (by decide)) hk (fun _ h => h.2)) (fun _ h => h.1)); replace HO_10 := Aside0.mk (Kd.R_mono (Kd.R_keep (IsS176.apart (show IsS176 w _ g738 t735 t740 t741 from r4_ HI738.out) (rk_ HO_10.out) (by decide)) hk (fun _ h => h.2)) (fun _ h => h.1)); replace HO_11 := Aside0.mk (Kd.R_mono (Kd.R_keep (IsS176.apart (show IsS176 w _ g738 t735 t740 t741 from r4_ HI738.out) (rk_ HO_11.out) (by decide)) hk (fun _ h => h.2)) (fun _ h => h.1)); replace HO_15 := Aside0.mk (Kd.R_mono (Kd.R_keep (IsS176.apart (show IsS176 w _ g738 t735 t740 t741 from r4_ HI738.out) (rk_ HO_15.out) (by decide)) hk (fun _ h => h.2)) (fun _ h => h.1)); replace HO_16 := Aside0.mk (Kd.R_mono (Kd.R_keep (IsS176.apart (show IsS176 w _ g738 t735 t740 t741 from r4_ HI738.out) (rk_ HO_16.out) (by decide)) hk (fun _ h => h.2)) (fun _ h => h.1)); replace HO_18 := Aside0.mk (Kd.R_mono (Kd.R_keep (IsS176.apart (show IsS176 w _ g738 t735 t740 t741 from r4_ HI738.out) (rk_ HO_18.out) (by decide)) hk (fun _ h => h.2)) (fun _ h => h.1)); replace HO_19 := Aside0.mk (Kd.R_mono (Kd.R_keep (IsS176.apart (show IsS176 w _ g738 t735 t740 t741 from r4_ HI738.out) (rk_ HO_19.out) (by decide)) hk (fun _ h => h.2)) (fun _ h => h.1)); replace HO_20 := Aside0.mk (Kd.R_mono (Kd.R_keep (IsS176.apart (show IsS176 w _ g738 t735 t740 t741 from r4_ HI738.out) (rk_ HO_20.out) (by decide)) hk (fun _ h => h.2)) (fun _ h => h.1)); replace HB := Aside0.mk (hb); replace HI738 := Aside0.mk (hi); (try clear hb); (try clear hb2); (try clear hk); (try clear hi); obtain ⟨Ao101, co101, eo101⟩ := Kd.R_slice HO_11.out; subst eo101) | ((with_reducible refine gate_callee (f := 59) rfl ?_); refine goesL_ (some 184) rfl rfl Try.func59 (by kernel_rfl) rfl #[.slice Ao101 t697.length co101, .int .i64 (wrap64 (20 + t739)), .int .i64 t742] rfl ag_ ?_; (with_reducible refine (impl_DistanceFor.calls kj65 _ _ t697 (wrap64 (20 + t739)) t742 t745 t746 _ ?side1 ?side2 A89.out).mono ?_); (case side1 => exact r6_ HO_11.out); (case side2 => exact (Kd.R_reads' HO_11.out).2.1); rintro e w102 ⟨rfl, hb⟩; refine ⟨_, rfl, ?_⟩; replace HO_3 := Aside0.mk (Kd.R_below (rk_ HO_3.out) hb); replace HO_5 := Aside0.mk (Kd.R_below (rk_ HO_5.out) hb); replace HO_9 := Aside0.mk (Kd.R_below (rk_ HO_9.out) hb); replace HO_10 := Aside0.mk (Kd.R_below (rk_ HO_10.out) hb); replace HO_11 := Aside0.mk (Kd.R_below (rk_ HO_11.out) hb); replace HO_15 := Aside0.mk (Kd.R_below (rk_ HO_15.out) hb); replace HO_16 := Aside0.mk (Kd.R_below (rk_ HO_16.out) hb); replace HO_18 := Aside0.mk (Kd.R_below (rk_ HO_18.out) hb); replace HO_19 := Aside0.mk (Kd.R_below (rk_ HO_19.out) hb); replace HO_20 := Aside0.mk (Kd.R_below (rk_ HO_20.out) hb); replace HB := Aside0.mk (below_step (r8_ HB.out HI738.out) hb); replace HI738 := Aside0.mk (IsS176.below (r4_ HI738.out) hb); (try clear hb); (try clear hb2); (try clear hk); (try clear hi)) | ((with_reducible refine gate_callee (f := 59) rfl ?_); refine goesL_ (some 191) rfl rfl Try.func59 (by kernel_rfl) rfl #[.slice Ao19 t691.length co19, .int .i64 (wrap64 (20 + t739)), .int .i64 t742] rfl ag_ ?_; (with_reducible refine (impl_DistanceFor.calls kj65 _ _ t691 (wrap64 (20 + t739)) t742 t747 t748 _ ?side1 ?side2 A90.out).mono ?_); (case side1 => exact r6_ HO_9.out); (case side2 => exact (Kd.R_reads' HO_9.out).2.1); rintro e w103 ⟨rfl, hb⟩; refine ⟨_, rfl, ?_⟩; replace HO_3 := Aside0.mk (Kd.R_below (rk_ HO_3.out) hb); replace HO_5 := Aside0.mk (Kd.R_below (rk_ HO_5.out) hb); replace HO_9 := Aside0.mk (Kd.R_below (rk_ HO_9.out) hb); replace HO_10 := Aside0.mk (Kd.R_below (rk_ HO_10.out) hb); replace HO_11 := Aside0.mk (Kd.R_below (rk_ HO_11.out) hb); replace HO_15 := Aside0.mk (Kd.R_below (rk_ HO_15.out) hb); replace HO_16 := Aside0.mk (Kd.R_below (rk_ HO_16.out) hb); replace HO_18 := Aside0.mk (Kd.R_below (rk_ HO_18.out) hb); replace HO_19 := Aside0.mk (Kd.R_below (rk_ HO_19.out) hb); replace HO_20 := Aside0.mk (Kd.R_below (rk_ HO_20.out) hb); replace HB := Aside0.mk (below_step (r8_ HB.out HI738.out) hb); replace HI738 := Aside0.mk (IsS176.below (r4_ HI738.out) hb); (try clear hb); (try clear hb2); (try clear hk); (try clear hi)) | ((with_reducible refine gate_callee (f := 59) rfl ?_); refine goesL_ (some 198) rfl rfl Try.func59 (by kernel_rfl) rfl #[.slice Ao20 t692.length co20, .int .i64 (wrap64 (20 + t739)), .int .i64 t742] rfl ag_ ?_; (with_reducible refine (impl_DistanceFor.calls kj65 _ _ t692 (wrap64 (20 + t739)) t742 t749 t750 _ ?side1 ?side2 A91.out).mono ?_); (case side1 => exact r6_ HO_10.out); (case side2 => exact (Kd.R_reads' HO_10.out).2.1); rintro e w104 ⟨rfl, hb⟩; refine ⟨_, rfl, ?_⟩; replace HO_3 := Aside0.mk (Kd.R_below (rk_ HO_3.out) hb); replace HO_5 := Aside0.mk (Kd.R_below (rk_ HO_5.out) hb); replace HO_9 := Aside0.mk (Kd.R_below (rk_ HO_9.out) hb); replace HO_10 := Aside0.mk (Kd.R_below (rk_ HO_10.out) hb); replace HO_11 := Aside0.mk (Kd.R_below (rk_ HO_11.out) hb); replace HO_15 := Aside0.mk (Kd.R_below (rk_ HO_15.out) hb); replace HO_16 := Aside0.mk (Kd.R_below (rk_ HO_16.out) hb); replace HO_18 := Aside0.mk (Kd.R_below (rk_ HO_18.out) hb); replace HO_19 := Aside0.mk (Kd.R_below (rk_ HO_19.out) hb); replace HO_20 := Aside0.mk (Kd.R_below (rk_ HO_20.out) hb); replace HB := Aside0.mk (below_step (r8_ HB.out HI738.out) hb); replace HI738 := Aside0.mk (IsS176.below (r4_ HI738.out) hb); (try clear hb); (try clear hb2); (try clear hk); (try clear hi)) | ((with_reducible refine gate_callee (f := 54) rfl ?_); refine goesL_ (some 202) rfl rfl Try.func54 (by kernel_rfl) rfl #[.slice Ao101 t697.length co101] rfl ag_ ?_; (with_reducible refine (impl_IsTable.calls kj65 _ _ t697 true _ ?side1 ?side2 A92.out).mono ?_); (case side1 => exact r6_ HO_11.out); (case side2 => exact (Kd.R_reads' HO_11.out).2.1); rintro e w105 ⟨rfl, hb⟩; refine ⟨_, rfl, ?_⟩; replace HO_3 := Aside0.mk (Kd.R_below (rk_ HO_3.out) hb); replace HO_5 := Aside0.mk (Kd.R_below (rk_ HO_5.out) hb); replace HO_9 := Aside0.mk (Kd.R_below (rk_ HO_9.out) hb); replace HO_10 := Aside0.mk (Kd.R_below (rk_ HO_10.out) hb); replace HO_11 := Aside0.mk (Kd.R_below (rk_ HO_11.out) hb); replace HO_15 := Aside0.mk (Kd.R_below (rk_ HO_15.out) hb); replace HO_16 := Aside0.mk (Kd.R_below (rk_ HO_16.out) hb); replace HO_18 := Aside0.mk (Kd.R_below (rk_ HO_18.out) hb); replace HO_19 := Aside0.mk (Kd.R_below (rk_ HO_19.out) hb); replace HO_20 := Aside0.mk (Kd.R_below (rk_ HO_20.out) hb); replace HB := Aside0.mk (below_step (r8_ HB.out HI738.out) hb); replace HI738 := Aside0.mk (IsS176.below (r4_ HI738.out) hb); (try clear hb); (try clear hb2); (try clear hk); (try clear hi)) | (go_at_call 60; (with_reducible refine (laws_hasKind.calls kj65 _ _ t692 t742 true _ ?side1 ?side2 A94.out).mono ?_); (case side1 => exact r6_ HO_10.out); (case side2 => exact (Kd.R_reads' HO_10.out).2.1); rintro e w' ⟨rfl, ⟨nd, rfl⟩⟩) | (go_at_call 60; (with_reducible refine (laws_hasKind.calls kj65 _ _ t691 t742 true _ ?side1 ?side2 A96.out).mono ?_); (case side1 => exact r6_ HO_9.out); (case side2 => exact (Kd.R_reads' HO_9.out).2.1); rintro e w' ⟨rfl, ⟨nd, rfl⟩⟩))
                go_meet
                case rel => exact ⟨_, H', ⟨by have := HJ12.out; have := HK2.out; have := HJ65.out; first | omega | exact Nat.le_refl _⟩, ⟨rk_ (Kd.R_mono HO_3.out (fun _ hk => hk.1))⟩, ⟨rk_ (Kd.R_mono HO_5.out (fun _ hk => hk.1))⟩, ⟨r8_ HB.out HI738.out⟩⟩
               replace c97 := Bool.eq_false_iff.mpr c97
               subst c97
               rw [if_neg (show ¬ (false = true) by decide)] at H
               by_cases c106 : t746 = t750
               case neg =>
                rw [if_neg c106] at H
                have c106b0 := beq_eq_false_iff_ne.mpr c106
                have c106b1 := bne_iff_ne.mpr c106
                exact absurd ((Option.some.inj H).trans hT) (by decide)
               rw [if_pos c106] at H
               have c106b0 := beq_iff_eq.mpr c106
               have c106b1 := bne_eq_false_iff_eq.mpr c106
               clear c106
               by_cases c107 : t749 = t745
               case neg =>
                rw [if_neg c107] at H
                have c107b0 := beq_eq_false_iff_ne.mpr c107
                have c107b1 := bne_iff_ne.mpr c107
                exact absurd ((Option.some.inj H).trans hT) (by decide)
               rw [if_pos c107] at H
               have c107b0 := beq_iff_eq.mpr c107
               have c107b1 := bne_eq_false_iff_eq.mpr c107
               clear c107
               have H' := Aside0.mk H
               clear H
               go_wp2_with (first | ((with_reducible refine gate_callee (f := 57) rfl ?_); refine goesL_ (some 174) rfl rfl Try.func57 (by kernel_rfl) rfl #[.slice A0 l0.length c0, .int .u64 1601] rfl ag_ ?_; (with_reducible refine (laws_roll.calls kj65 _ _ l0 1601 t735 t736 t737 w _ ?side1 ?side2 ?side3 A86.out).mono ?_); (case side1 => exact r15_ HB.out); (case side2 => exact HR0.out); (case side3 => exact HC0.out); rintro e w108 ⟨g738, rfl, hi, hb, hb2⟩; refine ⟨_, rfl, ?_⟩; replace HO_3 := Aside0.mk (Kd.R_below (rk_ HO_3.out) hb2); replace HO_5 := Aside0.mk (Kd.R_below (rk_ HO_5.out) hb2); replace HO_9 := Aside0.mk (Kd.R_below (rk_ HO_9.out) hb2); replace HO_10 := Aside0.mk (Kd.R_below (rk_ HO_10.out) hb2); replace HO_11 := Aside0.mk (Kd.R_below (rk_ HO_11.out) hb2); replace HO_15 := Aside0.mk (Kd.R_below (rk_ HO_15.out) hb2); replace HO_16 := Aside0.mk (Kd.R_below (rk_ HO_16.out) hb2); replace HO_18 := Aside0.mk (Kd.R_below (rk_ HO_18.out) hb2); replace HO_19 := Aside0.mk (Kd.R_below (rk_ HO_19.out) hb2); replace HO_20 := Aside0.mk (Kd.R_below (rk_ HO_20.out) hb2); replace HB := Aside0.mk (hb); have HI738 := Aside0.mk (hi); (try clear hb); (try clear hb2); (try clear hk); (try clear hi)) | ((with_reducible refine gate_callee (f := 58) rfl ?_); refine goesL_ (some 176) rfl rfl Try.func58 (by kernel_rfl) rfl #[.pointer (some ⟨g738, 0, none⟩), .int .i64 281] rfl ag_ ?_; (with_reducible refine (laws_dice_below.calls g738 t735 t736 t737 281 t739 t740 t741 w _ ?side1 ?side2 A87.out).mono ?_); (case side1 => exact r4_ HI738.out); (case side2 => exact r8_ HB.out HI738.out); rintro e w109 ⟨rfl, hi, hb, hk⟩; refine ⟨_, rfl, ?_⟩; replace HO_3 := Aside0.mk (Kd.R_mono (Kd.R_keep (IsS176.apart (show IsS176 w _ g738 t735 t736 t737 from r4_ HI738.out) (rk_ HO_3.out) (by decide)) hk (fun _ h => h.2)) (fun _ h => h.1)); replace HO_5 := Aside0.mk (Kd.R_mono (Kd.R_keep (IsS176.apart (show IsS176 w _ g738 t735 t736 t737 from r4_ HI738.out) (rk_ HO_5.out) (by decide)) hk (fun _ h => h.2)) (fun _ h => h.1)); replace HO_9 := Aside0.mk (Kd.R_mono (Kd.R_keep (IsS176.apart (show IsS176 w _ g738 t735 t736 t737 from r4_ HI738.out) (rk_ HO_9.out) (by decide)) hk (fun _ h => h.2)) (fun _ h => h.1)); replace HO_10 := Aside0.mk (Kd.R_mono (Kd.R_keep (IsS176.apart (show IsS176 w _ g738 t735 t736 t737 from r4_ HI738.out) (rk_ HO_10.out) (by decide)) hk (fun _ h => h.2)) (fun _ h => h.1)); replace HO_11 := Aside0.mk (Kd.R_mono (Kd.R_keep (IsS176.apart (show IsS176 w _ g738 t735 t736 t737 from r4_ HI738.out) (rk_ HO_11.out) (by decide)) hk (fun _ h => h.2)) (fun _ h => h.1)); replace HO_15 := Aside0.mk (Kd.R_mono (Kd.R_keep (IsS176.apart (show IsS176 w _ g738 t735 t736 t737 from r4_ HI738.out) (rk_ HO_15.out) (by decide)) hk (fun _ h => h.2)) (fun _ h => h.1)); replace HO_16 := Aside0.mk (Kd.R_mono (Kd.R_keep (IsS176.apart (show IsS176 w _ g738 t735 t736 t737 from r4_ HI738.out) (rk_ HO_16.out) (by decide)) hk (fun _ h => h.2)) (fun _ h => h.1)); replace HO_18 := Aside0.mk (Kd.R_mono (Kd.R_keep (IsS176.apart (show IsS176 w _ g738 t735 t736 t737 from r4_ HI738.out) (rk_ HO_18.out) (by decide)) hk (fun _ h => h.2)) (fun _ h => h.1)); replace HO_19 := Aside0.mk (Kd.R_mono (Kd.R_keep (IsS176.apart (show IsS176 w _ g738 t735 t736 t737 from r4_ HI738.out) (rk_ HO_19.out) (by decide)) hk (fun _ h => h.2)) (fun _ h => h.1)); replace HO_20 := Aside0.mk (Kd.R_mono (Kd.R_keep (IsS176.apart (show IsS176 w _ g738 t735 t736 t737 from r4_ HI738.out) (rk_ HO_20.out) (by decide)) hk (fun _ h => h.2)) (fun _ h => h.1)); replace HB := Aside0.mk (hb); replace HI738 := Aside0.mk (hi); (try clear hb); (try clear hb2); (try clear hk); (try clear hi)) | ((with_reducible refine gate_callee (f := 58) rfl ?_); refine goesL_ (some 179) rfl rfl Try.func58 (by kernel_rfl) rfl #[.pointer (some ⟨g738, 0, none⟩), .int .i64 4] rfl ag_ ?_; (with_reducible refine (laws_dice_below.calls g738 t735 t740 t741 4 t742 t743 t744 w _ ?side1 ?side2 A88.out).mono ?_); (case side1 => exact r4_ HI738.out); (case side2 => exact r8_ HB.out HI738.out); rintro e w110 ⟨rfl, hi, hb, hk⟩; refine ⟨_, rfl, ?_⟩; replace HO_3 := Aside0.mk (Kd.R_mono (Kd.R_keep (IsS176.apart (show IsS176 w _ g738 t735 t740 t741 from r4_ HI738.out) (rk_ HO_3.out) (by decide)) hk (fun _ h => h.2)) (fun _ h => h.1)); replace HO_5 := Aside0.mk (Kd.R_mono (Kd.R_keep (IsS176.apart (show IsS176 w _ g738 t735 t740 t741 from r4_ HI738.out) (rk_ HO_5.out) (by decide)) hk (fun _ h => h.2)) (fun _ h => h.1)); replace HO_9 := Aside0.mk (Kd.R_mono (Kd.R_keep (IsS176.apart (show IsS176 w _ g738 t735 t740 t741 from r4_ HI738.out) (rk_ HO_9.out) (by decide)) hk (fun _ h => h.2)) (fun _ h => h.1)); replace HO_10 := Aside0.mk (Kd.R_mono (Kd.R_keep (IsS176.apart (show IsS176 w _ g738 t735 t740 t741 from r4_ HI738.out) (rk_ HO_10.out) (by decide)) hk (fun _ h => h.2)) (fun _ h => h.1)); replace HO_11 := Aside0.mk (Kd.R_mono (Kd.R_keep (IsS176.apart (show IsS176 w _ g738 t735 t740 t741 from r4_ HI738.out) (rk_ HO_11.out) (by decide)) hk (fun _ h => h.2)) (fun _ h => h.1)); replace HO_15 := Aside0.mk (Kd.R_mono (Kd.R_keep (IsS176.apart (show IsS176 w _ g738 t735 t740 t741 from r4_ HI738.out) (rk_ HO_15.out) (by decide)) hk (fun _ h => h.2)) (fun _ h => h.1)); replace HO_16 := Aside0.mk (Kd.R_mono (Kd.R_keep (IsS176.apart (show IsS176 w _ g738 t735 t740 t741 from r4_ HI738.out) (rk_ HO_16.out) (by decide)) hk (fun _ h => h.2)) (fun _ h => h.1)); replace HO_18 := Aside0.mk (Kd.R_mono (Kd.R_keep (IsS176.apart (show IsS176 w _ g738 t735 t740 t741 from r4_ HI738.out) (rk_ HO_18.out) (by decide)) hk (fun _ h => h.2)) (fun _ h => h.1)); replace HO_19 := Aside0.mk (Kd.R_mono (Kd.R_keep (IsS176.apart (show IsS176 w _ g738 t735 t740 t741 from r4_ HI738.out) (rk_ HO_19.out) (by decide)) hk (fun _ h => h.2)) (fun _ h => h.1)); replace HO_20 := Aside0.mk (Kd.R_mono (Kd.R_keep (IsS176.apart (show IsS176 w _ g738 t735 t740 t741 from r4_ HI738.out) (rk_ HO_20.out) (by decide)) hk (fun _ h => h.2)) (fun _ h => h.1)); replace HB := Aside0.mk (hb); replace HI738 := Aside0.mk (hi); (try clear hb); (try clear hb2); (try clear hk); (try clear hi); obtain ⟨Ao111, co111, eo111⟩ := Kd.R_slice HO_11.out; subst eo111) | ((with_reducible refine gate_callee (f := 59) rfl ?_); refine goesL_ (some 184) rfl rfl Try.func59 (by kernel_rfl) rfl #[.slice Ao111 t697.length co111, .int .i64 (wrap64 (20 + t739)), .int .i64 t742] rfl ag_ ?_; (with_reducible refine (impl_DistanceFor.calls kj65 _ _ t697 (wrap64 (20 + t739)) t742 t745 t746 _ ?side1 ?side2 A89.out).mono ?_); (case side1 => exact r6_ HO_11.out); (case side2 => exact (Kd.R_reads' HO_11.out).2.1); rintro e w112 ⟨rfl, hb⟩; refine ⟨_, rfl, ?_⟩; replace HO_3 := Aside0.mk (Kd.R_below (rk_ HO_3.out) hb); replace HO_5 := Aside0.mk (Kd.R_below (rk_ HO_5.out) hb); replace HO_9 := Aside0.mk (Kd.R_below (rk_ HO_9.out) hb); replace HO_10 := Aside0.mk (Kd.R_below (rk_ HO_10.out) hb); replace HO_11 := Aside0.mk (Kd.R_below (rk_ HO_11.out) hb); replace HO_15 := Aside0.mk (Kd.R_below (rk_ HO_15.out) hb); replace HO_16 := Aside0.mk (Kd.R_below (rk_ HO_16.out) hb); replace HO_18 := Aside0.mk (Kd.R_below (rk_ HO_18.out) hb); replace HO_19 := Aside0.mk (Kd.R_below (rk_ HO_19.out) hb); replace HO_20 := Aside0.mk (Kd.R_below (rk_ HO_20.out) hb); replace HB := Aside0.mk (below_step (r8_ HB.out HI738.out) hb); replace HI738 := Aside0.mk (IsS176.below (r4_ HI738.out) hb); (try clear hb); (try clear hb2); (try clear hk); (try clear hi)) | ((with_reducible refine gate_callee (f := 59) rfl ?_); refine goesL_ (some 191) rfl rfl Try.func59 (by kernel_rfl) rfl #[.slice Ao19 t691.length co19, .int .i64 (wrap64 (20 + t739)), .int .i64 t742] rfl ag_ ?_; (with_reducible refine (impl_DistanceFor.calls kj65 _ _ t691 (wrap64 (20 + t739)) t742 t747 t748 _ ?side1 ?side2 A90.out).mono ?_); (case side1 => exact r6_ HO_9.out); (case side2 => exact (Kd.R_reads' HO_9.out).2.1); rintro e w113 ⟨rfl, hb⟩; refine ⟨_, rfl, ?_⟩; replace HO_3 := Aside0.mk (Kd.R_below (rk_ HO_3.out) hb); replace HO_5 := Aside0.mk (Kd.R_below (rk_ HO_5.out) hb); replace HO_9 := Aside0.mk (Kd.R_below (rk_ HO_9.out) hb); replace HO_10 := Aside0.mk (Kd.R_below (rk_ HO_10.out) hb); replace HO_11 := Aside0.mk (Kd.R_below (rk_ HO_11.out) hb); replace HO_15 := Aside0.mk (Kd.R_below (rk_ HO_15.out) hb); replace HO_16 := Aside0.mk (Kd.R_below (rk_ HO_16.out) hb); replace HO_18 := Aside0.mk (Kd.R_below (rk_ HO_18.out) hb); replace HO_19 := Aside0.mk (Kd.R_below (rk_ HO_19.out) hb); replace HO_20 := Aside0.mk (Kd.R_below (rk_ HO_20.out) hb); replace HB := Aside0.mk (below_step (r8_ HB.out HI738.out) hb); replace HI738 := Aside0.mk (IsS176.below (r4_ HI738.out) hb); (try clear hb); (try clear hb2); (try clear hk); (try clear hi)) | ((with_reducible refine gate_callee (f := 59) rfl ?_); refine goesL_ (some 198) rfl rfl Try.func59 (by kernel_rfl) rfl #[.slice Ao20 t692.length co20, .int .i64 (wrap64 (20 + t739)), .int .i64 t742] rfl ag_ ?_; (with_reducible refine (impl_DistanceFor.calls kj65 _ _ t692 (wrap64 (20 + t739)) t742 t749 t750 _ ?side1 ?side2 A91.out).mono ?_); (case side1 => exact r6_ HO_10.out); (case side2 => exact (Kd.R_reads' HO_10.out).2.1); rintro e w114 ⟨rfl, hb⟩; refine ⟨_, rfl, ?_⟩; replace HO_3 := Aside0.mk (Kd.R_below (rk_ HO_3.out) hb); replace HO_5 := Aside0.mk (Kd.R_below (rk_ HO_5.out) hb); replace HO_9 := Aside0.mk (Kd.R_below (rk_ HO_9.out) hb); replace HO_10 := Aside0.mk (Kd.R_below (rk_ HO_10.out) hb); replace HO_11 := Aside0.mk (Kd.R_below (rk_ HO_11.out) hb); replace HO_15 := Aside0.mk (Kd.R_below (rk_ HO_15.out) hb); replace HO_16 := Aside0.mk (Kd.R_below (rk_ HO_16.out) hb); replace HO_18 := Aside0.mk (Kd.R_below (rk_ HO_18.out) hb); replace HO_19 := Aside0.mk (Kd.R_below (rk_ HO_19.out) hb); replace HO_20 := Aside0.mk (Kd.R_below (rk_ HO_20.out) hb); replace HB := Aside0.mk (below_step (r8_ HB.out HI738.out) hb); replace HI738 := Aside0.mk (IsS176.below (r4_ HI738.out) hb); (try clear hb); (try clear hb2); (try clear hk); (try clear hi)) | ((with_reducible refine gate_callee (f := 54) rfl ?_); refine goesL_ (some 202) rfl rfl Try.func54 (by kernel_rfl) rfl #[.slice Ao111 t697.length co111] rfl ag_ ?_; (with_reducible refine (impl_IsTable.calls kj65 _ _ t697 true _ ?side1 ?side2 A92.out).mono ?_); (case side1 => exact r6_ HO_11.out); (case side2 => exact (Kd.R_reads' HO_11.out).2.1); rintro e w115 ⟨rfl, hb⟩; refine ⟨_, rfl, ?_⟩; replace HO_3 := Aside0.mk (Kd.R_below (rk_ HO_3.out) hb); replace HO_5 := Aside0.mk (Kd.R_below (rk_ HO_5.out) hb); replace HO_9 := Aside0.mk (Kd.R_below (rk_ HO_9.out) hb); replace HO_10 := Aside0.mk (Kd.R_below (rk_ HO_10.out) hb); replace HO_11 := Aside0.mk (Kd.R_below (rk_ HO_11.out) hb); replace HO_15 := Aside0.mk (Kd.R_below (rk_ HO_15.out) hb); replace HO_16 := Aside0.mk (Kd.R_below (rk_ HO_16.out) hb); replace HO_18 := Aside0.mk (Kd.R_below (rk_ HO_18.out) hb); replace HO_19 := Aside0.mk (Kd.R_below (rk_ HO_19.out) hb); replace HO_20 := Aside0.mk (Kd.R_below (rk_ HO_20.out) hb); replace HB := Aside0.mk (below_step (r8_ HB.out HI738.out) hb); replace HI738 := Aside0.mk (IsS176.below (r4_ HI738.out) hb); (try clear hb); (try clear hb2); (try clear hk); (try clear hi)) | (go_at_call 60; (with_reducible refine (laws_hasKind.calls kj65 _ _ t692 t742 true _ ?side1 ?side2 A94.out).mono ?_); (case side1 => exact r6_ HO_10.out); (case side2 => exact (Kd.R_reads' HO_10.out).2.1); rintro e w' ⟨rfl, ⟨nd, rfl⟩⟩) | (go_at_call 60; (with_reducible refine (laws_hasKind.calls kj65 _ _ t691 t742 false _ ?side1 ?side2 A96.out).mono ?_); (case side1 => exact r6_ HO_9.out); (case side2 => exact (Kd.R_reads' HO_9.out).2.1); rintro e w' ⟨rfl, ⟨nd, rfl⟩⟩))
               go_meet
               case rel => exact ⟨_, H', ⟨by have := HJ12.out; have := HK2.out; have := HJ65.out; first | omega | exact Nat.le_refl _⟩, ⟨rk_ (Kd.R_mono HO_3.out (fun _ hk => hk.1))⟩, ⟨rk_ (Kd.R_mono HO_5.out (fun _ hk => hk.1))⟩, ⟨r8_ HB.out HI738.out⟩⟩
             as_aux_lemma =>
              replace c95 := Bool.eq_false_iff.mpr c95
              subst c95
              rw [if_neg (show ¬ (false = true) by decide)] at H
              by_cases c132 : t746 = t748
              case neg =>
               rw [if_neg c132] at H
               have c132b0 := beq_eq_false_iff_ne.mpr c132
               have c132b1 := bne_iff_ne.mpr c132
               exact absurd ((Option.some.inj H).trans hT) (by decide)
              rw [if_pos c132] at H
              have c132b0 := beq_iff_eq.mpr c132
              have c132b1 := bne_eq_false_iff_eq.mpr c132
              clear c132
              by_cases c133 : t747 = t745
              case neg =>
               rw [if_neg c133] at H
               have c133b0 := beq_eq_false_iff_ne.mpr c133
               have c133b1 := bne_iff_ne.mpr c133
               exact absurd ((Option.some.inj H).trans hT) (by decide)
              rw [if_pos c133] at H
              have c133b0 := beq_iff_eq.mpr c133
              have c133b1 := bne_eq_false_iff_eq.mpr c133
              clear c133
              replace H := Option.bind_eq_some_iff.mp H
              obtain ⟨t754, A1340, H⟩ := H
              try dsimp only at H
              have A134 := Aside0.mk A1340
              clear A1340
              by_cases c135 : t754 = true
              case pos =>
               subst c135
               rw [if_pos rfl] at H
               have H' := Aside0.mk H
               clear H
               go_wp2_with (first | ((with_reducible refine gate_callee (f := 57) rfl ?_); refine goesL_ (some 174) rfl rfl Try.func57 (by kernel_rfl) rfl #[.slice A0 l0.length c0, .int .u64 1601] rfl ag_ ?_; (with_reducible refine (laws_roll.calls kj65 _ _ l0 1601 t735 t736 t737 w _ ?side1 ?side2 ?side3 A86.out).mono ?_); (case side1 => exact r15_ HB.out); (case side2 => exact HR0.out); (case side3 => exact HC0.out); rintro e w136 ⟨g738, rfl, hi, hb, hb2⟩; refine ⟨_, rfl, ?_⟩; replace HO_3 := Aside0.mk (Kd.R_below (rk_ HO_3.out) hb2); replace HO_5 := Aside0.mk (Kd.R_below (rk_ HO_5.out) hb2); replace HO_9 := Aside0.mk (Kd.R_below (rk_ HO_9.out) hb2); replace HO_10 := Aside0.mk (Kd.R_below (rk_ HO_10.out) hb2); replace HO_11 := Aside0.mk (Kd.R_below (rk_ HO_11.out) hb2); replace HO_15 := Aside0.mk (Kd.R_below (rk_ HO_15.out) hb2); replace HO_16 := Aside0.mk (Kd.R_below (rk_ HO_16.out) hb2); replace HO_18 := Aside0.mk (Kd.R_below (rk_ HO_18.out) hb2); replace HO_19 := Aside0.mk (Kd.R_below (rk_ HO_19.out) hb2); replace HO_20 := Aside0.mk (Kd.R_below (rk_ HO_20.out) hb2); replace HB := Aside0.mk (hb); have HI738 := Aside0.mk (hi); (try clear hb); (try clear hb2); (try clear hk); (try clear hi)) | ((with_reducible refine gate_callee (f := 58) rfl ?_); refine goesL_ (some 176) rfl rfl Try.func58 (by kernel_rfl) rfl #[.pointer (some ⟨g738, 0, none⟩), .int .i64 281] rfl ag_ ?_; (with_reducible refine (laws_dice_below.calls g738 t735 t736 t737 281 t739 t740 t741 w _ ?side1 ?side2 A87.out).mono ?_); (case side1 => exact r4_ HI738.out); (case side2 => exact r8_ HB.out HI738.out); rintro e w137 ⟨rfl, hi, hb, hk⟩; refine ⟨_, rfl, ?_⟩; replace HO_3 := Aside0.mk (Kd.R_mono (Kd.R_keep (IsS176.apart (show IsS176 w _ g738 t735 t736 t737 from r4_ HI738.out) (rk_ HO_3.out) (by decide)) hk (fun _ h => h.2)) (fun _ h => h.1)); replace HO_5 := Aside0.mk (Kd.R_mono (Kd.R_keep (IsS176.apart (show IsS176 w _ g738 t735 t736 t737 from r4_ HI738.out) (rk_ HO_5.out) (by decide)) hk (fun _ h => h.2)) (fun _ h => h.1)); replace HO_9 := Aside0.mk (Kd.R_mono (Kd.R_keep (IsS176.apart (show IsS176 w _ g738 t735 t736 t737 from r4_ HI738.out) (rk_ HO_9.out) (by decide)) hk (fun _ h => h.2)) (fun _ h => h.1)); replace HO_10 := Aside0.mk (Kd.R_mono (Kd.R_keep (IsS176.apart (show IsS176 w _ g738 t735 t736 t737 from r4_ HI738.out) (rk_ HO_10.out) (by decide)) hk (fun _ h => h.2)) (fun _ h => h.1)); replace HO_11 := Aside0.mk (Kd.R_mono (Kd.R_keep (IsS176.apart (show IsS176 w _ g738 t735 t736 t737 from r4_ HI738.out) (rk_ HO_11.out) (by decide)) hk (fun _ h => h.2)) (fun _ h => h.1)); replace HO_15 := Aside0.mk (Kd.R_mono (Kd.R_keep (IsS176.apart (show IsS176 w _ g738 t735 t736 t737 from r4_ HI738.out) (rk_ HO_15.out) (by decide)) hk (fun _ h => h.2)) (fun _ h => h.1)); replace HO_16 := Aside0.mk (Kd.R_mono (Kd.R_keep (IsS176.apart (show IsS176 w _ g738 t735 t736 t737 from r4_ HI738.out) (rk_ HO_16.out) (by decide)) hk (fun _ h => h.2)) (fun _ h => h.1)); replace HO_18 := Aside0.mk (Kd.R_mono (Kd.R_keep (IsS176.apart (show IsS176 w _ g738 t735 t736 t737 from r4_ HI738.out) (rk_ HO_18.out) (by decide)) hk (fun _ h => h.2)) (fun _ h => h.1)); replace HO_19 := Aside0.mk (Kd.R_mono (Kd.R_keep (IsS176.apart (show IsS176 w _ g738 t735 t736 t737 from r4_ HI738.out) (rk_ HO_19.out) (by decide)) hk (fun _ h => h.2)) (fun _ h => h.1)); replace HO_20 := Aside0.mk (Kd.R_mono (Kd.R_keep (IsS176.apart (show IsS176 w _ g738 t735 t736 t737 from r4_ HI738.out) (rk_ HO_20.out) (by decide)) hk (fun _ h => h.2)) (fun _ h => h.1)); replace HB := Aside0.mk (hb); replace HI738 := Aside0.mk (hi); (try clear hb); (try clear hb2); (try clear hk); (try clear hi)) | ((with_reducible refine gate_callee (f := 58) rfl ?_); refine goesL_ (some 179) rfl rfl Try.func58 (by kernel_rfl) rfl #[.pointer (some ⟨g738, 0, none⟩), .int .i64 4] rfl ag_ ?_; (with_reducible refine (laws_dice_below.calls g738 t735 t740 t741 4 t742 t743 t744 w _ ?side1 ?side2 A88.out).mono ?_); (case side1 => exact r4_ HI738.out); (case side2 => exact r8_ HB.out HI738.out); rintro e w138 ⟨rfl, hi, hb, hk⟩; refine ⟨_, rfl, ?_⟩; replace HO_3 := Aside0.mk (Kd.R_mono (Kd.R_keep (IsS176.apart (show IsS176 w _ g738 t735 t740 t741 from r4_ HI738.out) (rk_ HO_3.out) (by decide)) hk (fun _ h => h.2)) (fun _ h => h.1)); replace HO_5 := Aside0.mk (Kd.R_mono (Kd.R_keep (IsS176.apart (show IsS176 w _ g738 t735 t740 t741 from r4_ HI738.out) (rk_ HO_5.out) (by decide)) hk (fun _ h => h.2)) (fun _ h => h.1)); replace HO_9 := Aside0.mk (Kd.R_mono (Kd.R_keep (IsS176.apart (show IsS176 w _ g738 t735 t740 t741 from r4_ HI738.out) (rk_ HO_9.out) (by decide)) hk (fun _ h => h.2)) (fun _ h => h.1)); replace HO_10 := Aside0.mk (Kd.R_mono (Kd.R_keep (IsS176.apart (show IsS176 w _ g738 t735 t740 t741 from r4_ HI738.out) (rk_ HO_10.out) (by decide)) hk (fun _ h => h.2)) (fun _ h => h.1)); replace HO_11 := Aside0.mk (Kd.R_mono (Kd.R_keep (IsS176.apart (show IsS176 w _ g738 t735 t740 t741 from r4_ HI738.out) (rk_ HO_11.out) (by decide)) hk (fun _ h => h.2)) (fun _ h => h.1)); replace HO_15 := Aside0.mk (Kd.R_mono (Kd.R_keep (IsS176.apart (show IsS176 w _ g738 t735 t740 t741 from r4_ HI738.out) (rk_ HO_15.out) (by decide)) hk (fun _ h => h.2)) (fun _ h => h.1)); replace HO_16 := Aside0.mk (Kd.R_mono (Kd.R_keep (IsS176.apart (show IsS176 w _ g738 t735 t740 t741 from r4_ HI738.out) (rk_ HO_16.out) (by decide)) hk (fun _ h => h.2)) (fun _ h => h.1)); replace HO_18 := Aside0.mk (Kd.R_mono (Kd.R_keep (IsS176.apart (show IsS176 w _ g738 t735 t740 t741 from r4_ HI738.out) (rk_ HO_18.out) (by decide)) hk (fun _ h => h.2)) (fun _ h => h.1)); replace HO_19 := Aside0.mk (Kd.R_mono (Kd.R_keep (IsS176.apart (show IsS176 w _ g738 t735 t740 t741 from r4_ HI738.out) (rk_ HO_19.out) (by decide)) hk (fun _ h => h.2)) (fun _ h => h.1)); replace HO_20 := Aside0.mk (Kd.R_mono (Kd.R_keep (IsS176.apart (show IsS176 w _ g738 t735 t740 t741 from r4_ HI738.out) (rk_ HO_20.out) (by decide)) hk (fun _ h => h.2)) (fun _ h => h.1)); replace HB := Aside0.mk (hb); replace HI738 := Aside0.mk (hi); (try clear hb); (try clear hb2); (try clear hk); (try clear hi); obtain ⟨Ao139, co139, eo139⟩ := Kd.R_slice HO_11.out; subst eo139) | ((with_reducible refine gate_callee (f := 59) rfl ?_); refine goesL_ (some 184) rfl rfl Try.func59 (by kernel_rfl) rfl #[.slice Ao139 t697.length co139, .int .i64 (wrap64 (20 + t739)), .int .i64 t742] rfl ag_ ?_; (with_reducible refine (impl_DistanceFor.calls kj65 _ _ t697 (wrap64 (20 + t739)) t742 t745 t746 _ ?side1 ?side2 A89.out).mono ?_); (case side1 => exact r6_ HO_11.out); (case side2 => exact (Kd.R_reads' HO_11.out).2.1); rintro e w140 ⟨rfl, hb⟩; refine ⟨_, rfl, ?_⟩; replace HO_3 := Aside0.mk (Kd.R_below (rk_ HO_3.out) hb); replace HO_5 := Aside0.mk (Kd.R_below (rk_ HO_5.out) hb); replace HO_9 := Aside0.mk (Kd.R_below (rk_ HO_9.out) hb); replace HO_10 := Aside0.mk (Kd.R_below (rk_ HO_10.out) hb); replace HO_11 := Aside0.mk (Kd.R_below (rk_ HO_11.out) hb); replace HO_15 := Aside0.mk (Kd.R_below (rk_ HO_15.out) hb); replace HO_16 := Aside0.mk (Kd.R_below (rk_ HO_16.out) hb); replace HO_18 := Aside0.mk (Kd.R_below (rk_ HO_18.out) hb); replace HO_19 := Aside0.mk (Kd.R_below (rk_ HO_19.out) hb); replace HO_20 := Aside0.mk (Kd.R_below (rk_ HO_20.out) hb); replace HB := Aside0.mk (below_step (r8_ HB.out HI738.out) hb); replace HI738 := Aside0.mk (IsS176.below (r4_ HI738.out) hb); (try clear hb); (try clear hb2); (try clear hk); (try clear hi)) | ((with_reducible refine gate_callee (f := 59) rfl ?_); refine goesL_ (some 191) rfl rfl Try.func59 (by kernel_rfl) rfl #[.slice Ao19 t691.length co19, .int .i64 (wrap64 (20 + t739)), .int .i64 t742] rfl ag_ ?_; (with_reducible refine (impl_DistanceFor.calls kj65 _ _ t691 (wrap64 (20 + t739)) t742 t747 t748 _ ?side1 ?side2 A90.out).mono ?_); (case side1 => exact r6_ HO_9.out); (case side2 => exact (Kd.R_reads' HO_9.out).2.1); rintro e w141 ⟨rfl, hb⟩; refine ⟨_, rfl, ?_⟩; replace HO_3 := Aside0.mk (Kd.R_below (rk_ HO_3.out) hb); replace HO_5 := Aside0.mk (Kd.R_below (rk_ HO_5.out) hb); replace HO_9 := Aside0.mk (Kd.R_below (rk_ HO_9.out) hb); replace HO_10 := Aside0.mk (Kd.R_below (rk_ HO_10.out) hb); replace HO_11 := Aside0.mk (Kd.R_below (rk_ HO_11.out) hb); replace HO_15 := Aside0.mk (Kd.R_below (rk_ HO_15.out) hb); replace HO_16 := Aside0.mk (Kd.R_below (rk_ HO_16.out) hb); replace HO_18 := Aside0.mk (Kd.R_below (rk_ HO_18.out) hb); replace HO_19 := Aside0.mk (Kd.R_below (rk_ HO_19.out) hb); replace HO_20 := Aside0.mk (Kd.R_below (rk_ HO_20.out) hb); replace HB := Aside0.mk (below_step (r8_ HB.out HI738.out) hb); replace HI738 := Aside0.mk (IsS176.below (r4_ HI738.out) hb); (try clear hb); (try clear hb2); (try clear hk); (try clear hi)) | ((with_reducible refine gate_callee (f := 59) rfl ?_); refine goesL_ (some 198) rfl rfl Try.func59 (by kernel_rfl) rfl #[.slice Ao20 t692.length co20, .int .i64 (wrap64 (20 + t739)), .int .i64 t742] rfl ag_ ?_; (with_reducible refine (impl_DistanceFor.calls kj65 _ _ t692 (wrap64 (20 + t739)) t742 t749 t750 _ ?side1 ?side2 A91.out).mono ?_); (case side1 => exact r6_ HO_10.out); (case side2 => exact (Kd.R_reads' HO_10.out).2.1); rintro e w142 ⟨rfl, hb⟩; refine ⟨_, rfl, ?_⟩; replace HO_3 := Aside0.mk (Kd.R_below (rk_ HO_3.out) hb); replace HO_5 := Aside0.mk (Kd.R_below (rk_ HO_5.out) hb); replace HO_9 := Aside0.mk (Kd.R_below (rk_ HO_9.out) hb); replace HO_10 := Aside0.mk (Kd.R_below (rk_ HO_10.out) hb); replace HO_11 := Aside0.mk (Kd.R_below (rk_ HO_11.out) hb); replace HO_15 := Aside0.mk (Kd.R_below (rk_ HO_15.out) hb); replace HO_16 := Aside0.mk (Kd.R_below (rk_ HO_16.out) hb); replace HO_18 := Aside0.mk (Kd.R_below (rk_ HO_18.out) hb); replace HO_19 := Aside0.mk (Kd.R_below (rk_ HO_19.out) hb); replace HO_20 := Aside0.mk (Kd.R_below (rk_ HO_20.out) hb); replace HB := Aside0.mk (below_step (r8_ HB.out HI738.out) hb); replace HI738 := Aside0.mk (IsS176.below (r4_ HI738.out) hb); (try clear hb); (try clear hb2); (try clear hk); (try clear hi)) | ((with_reducible refine gate_callee (f := 54) rfl ?_); refine goesL_ (some 202) rfl rfl Try.func54 (by kernel_rfl) rfl #[.slice Ao139 t697.length co139] rfl ag_ ?_; (with_reducible refine (impl_IsTable.calls kj65 _ _ t697 true _ ?side1 ?side2 A92.out).mono ?_); (case side1 => exact r6_ HO_11.out); (case side2 => exact (Kd.R_reads' HO_11.out).2.1); rintro e w143 ⟨rfl, hb⟩; refine ⟨_, rfl, ?_⟩; replace HO_3 := Aside0.mk (Kd.R_below (rk_ HO_3.out) hb); replace HO_5 := Aside0.mk (Kd.R_below (rk_ HO_5.out) hb); replace HO_9 := Aside0.mk (Kd.R_below (rk_ HO_9.out) hb); replace HO_10 := Aside0.mk (Kd.R_below (rk_ HO_10.out) hb); replace HO_11 := Aside0.mk (Kd.R_below (rk_ HO_11.out) hb); replace HO_15 := Aside0.mk (Kd.R_below (rk_ HO_15.out) hb); replace HO_16 := Aside0.mk (Kd.R_below (rk_ HO_16.out) hb); replace HO_18 := Aside0.mk (Kd.R_below (rk_ HO_18.out) hb); replace HO_19 := Aside0.mk (Kd.R_below (rk_ HO_19.out) hb); replace HO_20 := Aside0.mk (Kd.R_below (rk_ HO_20.out) hb); replace HB := Aside0.mk (below_step (r8_ HB.out HI738.out) hb); replace HI738 := Aside0.mk (IsS176.below (r4_ HI738.out) hb); (try clear hb); (try clear hb2); (try clear hk); (try clear hi)) | (go_at_call 60; (with_reducible refine (laws_hasKind.calls kj65 _ _ t692 t742 false _ ?side1 ?side2 A94.out).mono ?_); (case side1 => exact r6_ HO_10.out); (case side2 => exact (Kd.R_reads' HO_10.out).2.1); rintro e w' ⟨rfl, ⟨nd, rfl⟩⟩) | (go_at_call 60; (with_reducible refine (laws_hasKind.calls kj65 _ _ t691 t742 true _ ?side1 ?side2 A134.out).mono ?_); (case side1 => exact r6_ HO_9.out); (case side2 => exact (Kd.R_reads' HO_9.out).2.1); rintro e w' ⟨rfl, ⟨nd, rfl⟩⟩))
               go_meet
               case rel => exact ⟨_, H', ⟨by have := HJ12.out; have := HK2.out; have := HJ65.out; first | omega | exact Nat.le_refl _⟩, ⟨rk_ (Kd.R_mono HO_3.out (fun _ hk => hk.1))⟩, ⟨rk_ (Kd.R_mono HO_5.out (fun _ hk => hk.1))⟩, ⟨r8_ HB.out HI738.out⟩⟩
              replace c135 := Bool.eq_false_iff.mpr c135
              subst c135
              rw [if_neg (show ¬ (false = true) by decide)] at H
              by_cases c144 : t746 = t750
              case neg =>
               rw [if_neg c144] at H
               have c144b0 := beq_eq_false_iff_ne.mpr c144
               have c144b1 := bne_iff_ne.mpr c144
               exact absurd ((Option.some.inj H).trans hT) (by decide)
              rw [if_pos c144] at H
              have c144b0 := beq_iff_eq.mpr c144
              have c144b1 := bne_eq_false_iff_eq.mpr c144
              clear c144
              by_cases c145 : t749 = t745
              case neg =>
               rw [if_neg c145] at H
               have c145b0 := beq_eq_false_iff_ne.mpr c145
               have c145b1 := bne_iff_ne.mpr c145
               exact absurd ((Option.some.inj H).trans hT) (by decide)
              rw [if_pos c145] at H
              have c145b0 := beq_iff_eq.mpr c145
              have c145b1 := bne_eq_false_iff_eq.mpr c145
              clear c145
              have H' := Aside0.mk H
              clear H
              go_wp2_with (first | ((with_reducible refine gate_callee (f := 57) rfl ?_); refine goesL_ (some 174) rfl rfl Try.func57 (by kernel_rfl) rfl #[.slice A0 l0.length c0, .int .u64 1601] rfl ag_ ?_; (with_reducible refine (laws_roll.calls kj65 _ _ l0 1601 t735 t736 t737 w _ ?side1 ?side2 ?side3 A86.out).mono ?_); (case side1 => exact r15_ HB.out); (case side2 => exact HR0.out); (case side3 => exact HC0.out); rintro e w146 ⟨g738, rfl, hi, hb, hb2⟩; refine ⟨_, rfl, ?_⟩; replace HO_3 := Aside0.mk (Kd.R_below (rk_ HO_3.out) hb2); replace HO_5 := Aside0.mk (Kd.R_below (rk_ HO_5.out) hb2); replace HO_9 := Aside0.mk (Kd.R_below (rk_ HO_9.out) hb2); replace HO_10 := Aside0.mk (Kd.R_below (rk_ HO_10.out) hb2); replace HO_11 := Aside0.mk (Kd.R_below (rk_ HO_11.out) hb2); replace HO_15 := Aside0.mk (Kd.R_below (rk_ HO_15.out) hb2); replace HO_16 := Aside0.mk (Kd.R_below (rk_ HO_16.out) hb2); replace HO_18 := Aside0.mk (Kd.R_below (rk_ HO_18.out) hb2); replace HO_19 := Aside0.mk (Kd.R_below (rk_ HO_19.out) hb2); replace HO_20 := Aside0.mk (Kd.R_below (rk_ HO_20.out) hb2); replace HB := Aside0.mk (hb); have HI738 := Aside0.mk (hi); (try clear hb); (try clear hb2); (try clear hk); (try clear hi)) | ((with_reducible refine gate_callee (f := 58) rfl ?_); refine goesL_ (some 176) rfl rfl Try.func58 (by kernel_rfl) rfl #[.pointer (some ⟨g738, 0, none⟩), .int .i64 281] rfl ag_ ?_; (with_reducible refine (laws_dice_below.calls g738 t735 t736 t737 281 t739 t740 t741 w _ ?side1 ?side2 A87.out).mono ?_); (case side1 => exact r4_ HI738.out); (case side2 => exact r8_ HB.out HI738.out); rintro e w147 ⟨rfl, hi, hb, hk⟩; refine ⟨_, rfl, ?_⟩; replace HO_3 := Aside0.mk (Kd.R_mono (Kd.R_keep (IsS176.apart (show IsS176 w _ g738 t735 t736 t737 from r4_ HI738.out) (rk_ HO_3.out) (by decide)) hk (fun _ h => h.2)) (fun _ h => h.1)); replace HO_5 := Aside0.mk (Kd.R_mono (Kd.R_keep (IsS176.apart (show IsS176 w _ g738 t735 t736 t737 from r4_ HI738.out) (rk_ HO_5.out) (by decide)) hk (fun _ h => h.2)) (fun _ h => h.1)); replace HO_9 := Aside0.mk (Kd.R_mono (Kd.R_keep (IsS176.apart (show IsS176 w _ g738 t735 t736 t737 from r4_ HI738.out) (rk_ HO_9.out) (by decide)) hk (fun _ h => h.2)) (fun _ h => h.1)); replace HO_10 := Aside0.mk (Kd.R_mono (Kd.R_keep (IsS176.apart (show IsS176 w _ g738 t735 t736 t737 from r4_ HI738.out) (rk_ HO_10.out) (by decide)) hk (fun _ h => h.2)) (fun _ h => h.1)); replace HO_11 := Aside0.mk (Kd.R_mono (Kd.R_keep (IsS176.apart (show IsS176 w _ g738 t735 t736 t737 from r4_ HI738.out) (rk_ HO_11.out) (by decide)) hk (fun _ h => h.2)) (fun _ h => h.1)); replace HO_15 := Aside0.mk (Kd.R_mono (Kd.R_keep (IsS176.apart (show IsS176 w _ g738 t735 t736 t737 from r4_ HI738.out) (rk_ HO_15.out) (by decide)) hk (fun _ h => h.2)) (fun _ h => h.1)); replace HO_16 := Aside0.mk (Kd.R_mono (Kd.R_keep (IsS176.apart (show IsS176 w _ g738 t735 t736 t737 from r4_ HI738.out) (rk_ HO_16.out) (by decide)) hk (fun _ h => h.2)) (fun _ h => h.1)); replace HO_18 := Aside0.mk (Kd.R_mono (Kd.R_keep (IsS176.apart (show IsS176 w _ g738 t735 t736 t737 from r4_ HI738.out) (rk_ HO_18.out) (by decide)) hk (fun _ h => h.2)) (fun _ h => h.1)); replace HO_19 := Aside0.mk (Kd.R_mono (Kd.R_keep (IsS176.apart (show IsS176 w _ g738 t735 t736 t737 from r4_ HI738.out) (rk_ HO_19.out) (by decide)) hk (fun _ h => h.2)) (fun _ h => h.1)); replace HO_20 := Aside0.mk (Kd.R_mono (Kd.R_keep (IsS176.apart (show IsS176 w _ g738 t735 t736 t737 from r4_ HI738.out) (rk_ HO_20.out) (by decide)) hk (fun _ h => h.2)) (fun _ h => h.1)); replace HB := Aside0.mk (hb); replace HI738 := Aside0.mk (hi); (try clear hb); (try clear hb2); (try clear hk); (try clear hi)) | ((with_reducible refine gate_callee (f := 58) rfl ?_); refine goesL_ (some 179) rfl rfl Try.func58 (by kernel_rfl) rfl #[.pointer (some ⟨g738, 0, none⟩), .int .i64 4] rfl ag_ ?_; (with_reducible refine (laws_dice_below.calls g738 t735 t740 t741 4 t742 t743 t744 w _ ?side1 ?side2 A88.out).mono ?_); (case side1 => exact r4_ HI738.out); (case side2 => exact r8_ HB.out HI738.out); rintro e w148 ⟨rfl, hi, hb, hk⟩; refine ⟨_, rfl, ?_⟩; replace HO_3 := Aside0.mk (Kd.R_mono (Kd.R_keep (IsS176.apart (show IsS176 w _ g738 t735 t740 t741 from r4_ HI738.out) (rk_ HO_3.out) (by decide)) hk (fun _ h => h.2)) (fun _ h => h.1)); replace HO_5 := Aside0.mk (Kd.R_mono (Kd.R_keep (IsS176.apart (show IsS176 w _ g738 t735 t740 t741 from r4_ HI738.out) (rk_ HO_5.out) (by decide)) hk (fun _ h => h.2)) (fun _ h => h.1)); replace HO_9 := Aside0.mk (Kd.R_mono (Kd.R_keep (IsS176.apart (show IsS176 w _ g738 t735 t740 t741 from r4_ HI738.out) (rk_ HO_9.out) (by decide)) hk (fun _ h => h.2)) (fun _ h => h.1)); replace HO_10 := Aside0.mk (Kd.R_mono (Kd.R_keep (IsS176.apart (show IsS176 w _ g738 t735 t740 t741 from r4_ HI738.out) (rk_ HO_10.out) (by decide)) hk (fun _ h => h.2)) (fun _ h => h.1)); replace HO_11 := Aside0.mk (Kd.R_mono (Kd.R_keep (IsS176.apart (show IsS176 w _ g738 t735 t740 t741 from r4_ HI738.out) (rk_ HO_11.out) (by decide)) hk (fun _ h => h.2)) (fun _ h => h.1)); replace HO_15 := Aside0.mk (Kd.R_mono (Kd.R_keep (IsS176.apart (show IsS176 w _ g738 t735 t740 t741 from r4_ HI738.out) (rk_ HO_15.out) (by decide)) hk (fun _ h => h.2)) (fun _ h => h.1)); replace HO_16 := Aside0.mk (Kd.R_mono (Kd.R_keep (IsS176.apart (show IsS176 w _ g738 t735 t740 t741 from r4_ HI738.out) (rk_ HO_16.out) (by decide)) hk (fun _ h => h.2)) (fun _ h => h.1)); replace HO_18 := Aside0.mk (Kd.R_mono (Kd.R_keep (IsS176.apart (show IsS176 w _ g738 t735 t740 t741 from r4_ HI738.out) (rk_ HO_18.out) (by decide)) hk (fun _ h => h.2)) (fun _ h => h.1)); replace HO_19 := Aside0.mk (Kd.R_mono (Kd.R_keep (IsS176.apart (show IsS176 w _ g738 t735 t740 t741 from r4_ HI738.out) (rk_ HO_19.out) (by decide)) hk (fun _ h => h.2)) (fun _ h => h.1)); replace HO_20 := Aside0.mk (Kd.R_mono (Kd.R_keep (IsS176.apart (show IsS176 w _ g738 t735 t740 t741 from r4_ HI738.out) (rk_ HO_20.out) (by decide)) hk (fun _ h => h.2)) (fun _ h => h.1)); replace HB := Aside0.mk (hb); replace HI738 := Aside0.mk (hi); (try clear hb); (try clear hb2); (try clear hk); (try clear hi); obtain ⟨Ao149, co149, eo149⟩ := Kd.R_slice HO_11.out; subst eo149) | ((with_reducible refine gate_callee (f := 59) rfl ?_); refine goesL_ (some 184) rfl rfl Try.func59 (by kernel_rfl) rfl #[.slice Ao149 t697.length co149, .int .i64 (wrap64 (20 + t739)), .int .i64 t742] rfl ag_ ?_; (with_reducible refine (impl_DistanceFor.calls kj65 _ _ t697 (wrap64 (20 + t739)) t742 t745 t746 _ ?side1 ?side2 A89.out).mono ?_); (case side1 => exact r6_ HO_11.out); (case side2 => exact (Kd.R_reads' HO_11.out).2.1); rintro e w150 ⟨rfl, hb⟩; refine ⟨_, rfl, ?_⟩; replace HO_3 := Aside0.mk (Kd.R_below (rk_ HO_3.out) hb); replace HO_5 := Aside0.mk (Kd.R_below (rk_ HO_5.out) hb); replace HO_9 := Aside0.mk (Kd.R_below (rk_ HO_9.out) hb); replace HO_10 := Aside0.mk (Kd.R_below (rk_ HO_10.out) hb); replace HO_11 := Aside0.mk (Kd.R_below (rk_ HO_11.out) hb); replace HO_15 := Aside0.mk (Kd.R_below (rk_ HO_15.out) hb); replace HO_16 := Aside0.mk (Kd.R_below (rk_ HO_16.out) hb); replace HO_18 := Aside0.mk (Kd.R_below (rk_ HO_18.out) hb); replace HO_19 := Aside0.mk (Kd.R_below (rk_ HO_19.out) hb); replace HO_20 := Aside0.mk (Kd.R_below (rk_ HO_20.out) hb); replace HB := Aside0.mk (below_step (r8_ HB.out HI738.out) hb); replace HI738 := Aside0.mk (IsS176.below (r4_ HI738.out) hb); (try clear hb); (try clear hb2); (try clear hk); (try clear hi)) | ((with_reducible refine gate_callee (f := 59) rfl ?_); refine goesL_ (some 191) rfl rfl Try.func59 (by kernel_rfl) rfl #[.slice Ao19 t691.length co19, .int .i64 (wrap64 (20 + t739)), .int .i64 t742] rfl ag_ ?_; (with_reducible refine (impl_DistanceFor.calls kj65 _ _ t691 (wrap64 (20 + t739)) t742 t747 t748 _ ?side1 ?side2 A90.out).mono ?_); (case side1 => exact r6_ HO_9.out); (case side2 => exact (Kd.R_reads' HO_9.out).2.1); rintro e w151 ⟨rfl, hb⟩; refine ⟨_, rfl, ?_⟩; replace HO_3 := Aside0.mk (Kd.R_below (rk_ HO_3.out) hb); replace HO_5 := Aside0.mk (Kd.R_below (rk_ HO_5.out) hb); replace HO_9 := Aside0.mk (Kd.R_below (rk_ HO_9.out) hb); replace HO_10 := Aside0.mk (Kd.R_below (rk_ HO_10.out) hb); replace HO_11 := Aside0.mk (Kd.R_below (rk_ HO_11.out) hb); replace HO_15 := Aside0.mk (Kd.R_below (rk_ HO_15.out) hb); replace HO_16 := Aside0.mk (Kd.R_below (rk_ HO_16.out) hb); replace HO_18 := Aside0.mk (Kd.R_below (rk_ HO_18.out) hb); replace HO_19 := Aside0.mk (Kd.R_below (rk_ HO_19.out) hb); replace HO_20 := Aside0.mk (Kd.R_below (rk_ HO_20.out) hb); replace HB := Aside0.mk (below_step (r8_ HB.out HI738.out) hb); replace HI738 := Aside0.mk (IsS176.below (r4_ HI738.out) hb); (try clear hb); (try clear hb2); (try clear hk); (try clear hi)) | ((with_reducible refine gate_callee (f := 59) rfl ?_); refine goesL_ (some 198) rfl rfl Try.func59 (by kernel_rfl) rfl #[.slice Ao20 t692.length co20, .int .i64 (wrap64 (20 + t739)), .int .i64 t742] rfl ag_ ?_; (with_reducible refine (impl_DistanceFor.calls kj65 _ _ t692 (wrap64 (20 + t739)) t742 t749 t750 _ ?side1 ?side2 A91.out).mono ?_); (case side1 => exact r6_ HO_10.out); (case side2 => exact (Kd.R_reads' HO_10.out).2.1); rintro e w152 ⟨rfl, hb⟩; refine ⟨_, rfl, ?_⟩; replace HO_3 := Aside0.mk (Kd.R_below (rk_ HO_3.out) hb); replace HO_5 := Aside0.mk (Kd.R_below (rk_ HO_5.out) hb); replace HO_9 := Aside0.mk (Kd.R_below (rk_ HO_9.out) hb); replace HO_10 := Aside0.mk (Kd.R_below (rk_ HO_10.out) hb); replace HO_11 := Aside0.mk (Kd.R_below (rk_ HO_11.out) hb); replace HO_15 := Aside0.mk (Kd.R_below (rk_ HO_15.out) hb); replace HO_16 := Aside0.mk (Kd.R_below (rk_ HO_16.out) hb); replace HO_18 := Aside0.mk (Kd.R_below (rk_ HO_18.out) hb); replace HO_19 := Aside0.mk (Kd.R_below (rk_ HO_19.out) hb); replace HO_20 := Aside0.mk (Kd.R_below (rk_ HO_20.out) hb); replace HB := Aside0.mk (below_step (r8_ HB.out HI738.out) hb); replace HI738 := Aside0.mk (IsS176.below (r4_ HI738.out) hb); (try clear hb); (try clear hb2); (try clear hk); (try clear hi)) | ((with_reducible refine gate_callee (f := 54) rfl ?_); refine goesL_ (some 202) rfl rfl Try.func54 (by kernel_rfl) rfl #[.slice Ao149 t697.length co149] rfl ag_ ?_; (with_reducible refine (impl_IsTable.calls kj65 _ _ t697 true _ ?side1 ?side2 A92.out).mono ?_); (case side1 => exact r6_ HO_11.out); (case side2 => exact (Kd.R_reads' HO_11.out).2.1); rintro e w153 ⟨rfl, hb⟩; refine ⟨_, rfl, ?_⟩; replace HO_3 := Aside0.mk (Kd.R_below (rk_ HO_3.out) hb); replace HO_5 := Aside0.mk (Kd.R_below (rk_ HO_5.out) hb); replace HO_9 := Aside0.mk (Kd.R_below (rk_ HO_9.out) hb); replace HO_10 := Aside0.mk (Kd.R_below (rk_ HO_10.out) hb); replace HO_11 := Aside0.mk (Kd.R_below (rk_ HO_11.out) hb); replace HO_15 := Aside0.mk (Kd.R_below (rk_ HO_15.out) hb); replace HO_16 := Aside0.mk (Kd.R_below (rk_ HO_16.out) hb); replace HO_18 := Aside0.mk (Kd.R_below (rk_ HO_18.out) hb); replace HO_19 := Aside0.mk (Kd.R_below (rk_ HO_19.out) hb); replace HO_20 := Aside0.mk (Kd.R_below (rk_ HO_20.out) hb); replace HB := Aside0.mk (below_step (r8_ HB.out HI738.out) hb); replace HI738 := Aside0.mk (IsS176.below (r4_ HI738.out) hb); (try clear hb); (try clear hb2); (try clear hk); (try clear hi)) | (go_at_call 60; (with_reducible refine (laws_hasKind.calls kj65 _ _ t692 t742 false _ ?side1 ?side2 A94.out).mono ?_); (case side1 => exact r6_ HO_10.out); (case side2 => exact (Kd.R_reads' HO_10.out).2.1); rintro e w' ⟨rfl, ⟨nd, rfl⟩⟩) | (go_at_call 60; (with_reducible refine (laws_hasKind.calls kj65 _ _ t691 t742 false _ ?side1 ?side2 A134.out).mono ?_); (case side1 => exact r6_ HO_9.out); (case side2 => exact (Kd.R_reads' HO_9.out).2.1); rintro e w' ⟨rfl, ⟨nd, rfl⟩⟩))
              go_meet
              case rel => exact ⟨_, H', ⟨by have := HJ12.out; have := HK2.out; have := HJ65.out; first | omega | exact Nat.le_refl _⟩, ⟨rk_ (Kd.R_mono HO_3.out (fun _ hk => hk.1))⟩, ⟨rk_ (Kd.R_mono HO_5.out (fun _ hk => hk.1))⟩, ⟨r8_ HB.out HI738.out⟩⟩
           case rest =>
            as_aux_lemma =>
             clear HC84
             try clear c1
             try clear p2
             try clear c5
             try clear c6
             try clear p6
             try clear c7
             try clear p7
             try clear q7
             try clear hx7
             try clear c8
             try clear c9
             try clear c10
             try clear c13
             try clear c14
             try clear c54
             try clear c55
             try clear c57
             try clear c58
             try clear c59
             try clear p64
             try clear c68
             try clear c69
             try clear c70
             try clear c71
             try clear c73
             try clear c73b0
             try clear c73b1
             try clear p73
             try clear q73
             try clear hx73
             try clear c85
             try clear c85b0
             try clear c85b1
             try clear c93
             try clear c95
             try clear c97
             try clear c106
             try clear c106b0
             try clear c106b1
             try clear c107
             try clear c107b0
             try clear c107b1
             try clear c132
             try clear c132b0
             try clear c132b1
             try clear c133
             try clear c133b0
             try clear c133b1
             try clear c135
             try clear c144
             try clear c144b0
             try clear c144b1
             try clear c145
             try clear c145b0
             try clear c145b1
             try clear hx730_0
             try clear hx731_0
             try clear p730
             try clear p731
             try clear q730
             try clear q731
             obtain ⟨kq, HA, HJ83, HO_3, HO_5, HB⟩ := hcut
             cases kq with
             | zero => exact absurd HA.out (by simp [laws_FnTables.j3])
             | succ kj83 =>
              have H := HA.out
              clear HA
              simp only [laws_FnTables.j3] at H
              have H' := Aside0.mk H
              clear H
              go_wp2
              go_loopg [36] kj83 (fun kq v36 w' => ∃ (x36_5 : Int), v36 = .int .i64 x36_5 ∧ Aside0 (laws_FnTables.l1 kq t679 t683 t684 x36_5 = some r) ∧ Aside0 (kq ≤ kj83) ∧ Aside0 (Kd.R k81 81 w' w.heap.size (fun k_ => some k_ ≠ (v685 : Value).ownBlock) (.slice Ao15 t679.length co15) t679) ∧ Aside0 (Kd.R k81 81 w' w.heap.size (fun k_ => some k_ ≠ ((.slice Ao15 t679.length co15) : Value).ownBlock) v685 t683) ∧ Aside0 (Below w.heap.size w w'))
              case atStart => exact ⟨(0), rs_, H', ⟨Nat.le_refl _⟩, ⟨rk_ HO_3.out⟩, ⟨rk_ HO_5.out⟩, ⟨bl_ HB.out⟩⟩
              case round =>
               clear H'
               try clear c1
               try clear p2
               try clear c5
               try clear c6
               try clear p6
               try clear c7
               try clear p7
               try clear q7
               try clear hx7
               try clear c8
               try clear c9
               try clear c10
               try clear c13
               try clear c14
               try clear c54
               try clear c55
               try clear c57
               try clear c58
               try clear c59
               try clear p64
               try clear c68
               try clear c69
               try clear c70
               try clear c71
               try clear c73
               try clear c73b0
               try clear c73b1
               try clear p73
               try clear q73
               try clear hx73
               try clear c85
               try clear c85b0
               try clear c85b1
               try clear c93
               try clear c95
               try clear c97
               try clear c106
               try clear c106b0
               try clear c106b1
               try clear c107
               try clear c107b0
               try clear c107b1
               try clear c132
               try clear c132b0
               try clear c132b1
               try clear c133
               try clear c133b0
               try clear c133b1
               try clear c135
               try clear c144
               try clear c144b0
               try clear c144b1
               try clear c145
               try clear c145b0
               try clear c145b1
               try clear hx730_0
               try clear hx731_0
               try clear p2
               try clear p6
               try clear p64
               try clear p7
               try clear p73
               try clear p730
               try clear p731
               try clear q7
               try clear q73
               try clear q730
               try clear q731
               obtain ⟨x36_5, rfl, HA, HK5, HO_3, HO_5, HB⟩ := hrel
               cases gk with
               | zero => exact absurd HA.out (by simp [laws_FnTables.l1])
               | succ k5 =>
                have H := HA.out
                clear HA
                simp only [laws_FnTables.l1] at H
                have HC194 := Aside0.mk H
                clear H
                go_upto_region 29 with (fail)
                go_cut [243] (fun v243 wc => ∃ (kq : Nat) (x243_193 : Bool), v243 = .bool x243_193 ∧ Aside0 (laws_FnTables.j5 kq t679 t683 t684 x36_5 x243_193 = some r) ∧ Aside0 (kq ≤ k5) ∧ Aside0 (Kd.R k81 81 wc w.heap.size (fun k_ => some k_ ≠ (v685 : Value).ownBlock) (.slice Ao15 t679.length co15) t679) ∧ Aside0 (Kd.R k81 81 wc w.heap.size (fun k_ => some k_ ≠ ((.slice Ao15 t679.length co15) : Value).ownBlock) v685 t683) ∧ Aside0 (Below w.heap.size w wc))
                case first =>
                 have H := HC194.out
                 clear HC194
                 by_cases c195 : t684 = 0
                 case neg =>
                  rw [if_neg c195] at H
                  have c195b0 := beq_eq_false_iff_ne.mpr c195
                  have c195b1 := bne_iff_ne.mpr c195
                  (first | rw [c195b0] | (simp only [i64_w, i32_w]; rw [c195b0]) | skip)
                  have H' := Aside0.mk H
                  clear H
                  go_wp2
                  go_meet
                  case rel => exact ⟨_, (false), rs_, H', ⟨by have := HJ12.out; have := HK2.out; have := HJ65.out; have := HJ83.out; have := HK5.out; first | omega | exact Nat.le_refl _⟩, ⟨rk_ HO_3.out⟩, ⟨rk_ HO_5.out⟩, ⟨bl_ HB.out⟩⟩
                 rw [if_pos c195] at H
                 have c195b0 := beq_iff_eq.mpr c195
                 have c195b1 := bne_eq_false_iff_eq.mpr c195
                 clear c195
                 (first | rw [c195b0] | (simp only [i64_w, i32_w]; rw [c195b0]) | skip)
                 have H' := Aside0.mk H
                 clear H
                 obtain ⟨Ao196, co196, eo196⟩ := Kd.R_slice HO_5.out
                 subst eo196
                 go_wp2
                 go_meet
                 case rel => exact ⟨_, (decide (x36_5 < (t683.length : Int))), rs_, H', ⟨by have := HJ12.out; have := HK2.out; have := HJ65.out; have := HJ83.out; have := HK5.out; first | omega | exact Nat.le_refl _⟩, ⟨rk_ HO_3.out⟩, ⟨rk_ HO_5.out⟩, ⟨bl_ HB.out⟩⟩
                case rest =>
                 as_aux_lemma =>
                  clear HC194
                  try clear c1
                  try clear p2
                  try clear c5
                  try clear c6
                  try clear p6
                  try clear c7
                  try clear p7
                  try clear q7
                  try clear hx7
                  try clear c8
                  try clear c9
                  try clear c10
                  try clear c13
                  try clear c14
                  try clear c19
                  try clear c54
                  try clear c55
                  try clear c57
                  try clear c58
                  try clear c59
                  try clear p64
                  try clear c68
                  try clear c69
                  try clear c70
                  try clear c71
                  try clear c73
                  try clear c73b0
                  try clear c73b1
                  try clear p73
                  try clear q73
                  try clear hx73
                  try clear c85
                  try clear c85b0
                  try clear c85b1
                  try clear c93
                  try clear c95
                  try clear c97
                  try clear c106
                  try clear c106b0
                  try clear c106b1
                  try clear c107
                  try clear c107b0
                  try clear c107b1
                  try clear c132
                  try clear c132b0
                  try clear c132b1
                  try clear c133
                  try clear c133b0
                  try clear c133b1
                  try clear c135
                  try clear c144
                  try clear c144b0
                  try clear c144b1
                  try clear c145
                  try clear c145b0
                  try clear c145b1
                  try clear c195
                  try clear c195b0
                  try clear c195b1
                  try clear hx730_0
                  try clear hx731_0
                  try clear p2
                  try clear p6
                  try clear p64
                  try clear p7
                  try clear p73
                  try clear p730
                  try clear p731
                  try clear q7
                  try clear q73
                  try clear q730
                  try clear q731
                  obtain ⟨kq, x243_193, rfl, HA, HJ193, HO_3, HO_5, HB⟩ := hcut
                  cases kq with
                  | zero => exact absurd HA.out (by simp [laws_FnTables.j5])
                  | succ kj193 =>
                   have H := HA.out
                   clear HA
                   simp only [laws_FnTables.j5] at H
                   by_cases c197 : x243_193 = true
                   case neg =>
                    replace c197 := Bool.eq_false_iff.mpr c197
                    subst c197
                    rw [if_neg (show ¬ (false = true) by decide)] at H
                    by_cases c212 : t684 = 0
                    case neg =>
                     rw [if_neg c212] at H
                     have c212b0 := beq_eq_false_iff_ne.mpr c212
                     have c212b1 := bne_iff_ne.mpr c212
                     obtain rfl := Option.some.inj H
                     go_wp2
                     go_ret
                     exact ⟨(re_), bl_ HB.out⟩


                    rw [if_pos c212] at H
                    have c212b0 := beq_iff_eq.mpr c212
                    have c212b1 := bne_eq_false_iff_eq.mpr c212
                    clear c212
                    replace H := Option.bind_eq_some_iff.mp H
                    obtain ⟨t761, A2130, H⟩ := H
                    try dsimp only at H
                    have A213 := Aside0.mk A2130
                    clear A2130
                    obtain rfl := Option.some.inj H
                    obtain ⟨Ao214, co214, eo214⟩ := Kd.R_slice HO_5.out
                    subst eo214
                    go_wp2_with (first | (go_at_call 54; (with_reducible refine (impl_IsTable.calls kj193 _ _ t683 t761 _ ?side1 ?side2 A213.out).mono ?_); (case side1 => exact r6_ HO_5.out); (case side2 => exact (Kd.R_reads' HO_5.out).2.1); rintro e w215 ⟨rfl, hb⟩; replace HO_3 := Aside0.mk (Kd.R_below (rk_ HO_3.out) hb); replace HO_5 := Aside0.mk (Kd.R_below (rk_ HO_5.out) hb); replace HB := Aside0.mk (below_step (bl_ HB.out) hb); (try clear hb); (try clear hb2); (try clear hk); (try clear hi)))
                    go_ret
                    exact ⟨(re_), bl_ HB.out⟩
                   as_aux_lemma =>
                    subst c197
                    rw [if_pos rfl] at H
                    by_cases c198 : 0 ≤ x36_5
                    case neg =>
                     rw [if_neg c198] at H
                     exact absurd H (by simp)
                    rw [if_pos c198] at H
                    have c198b0 := decide_eq_true c198
                    clear c198
                    by_cases c199 : x36_5 < (t683.length : Int)
                    case neg =>
                     rw [if_neg c199] at H
                     exact absurd H (by simp)
                    rw [if_pos c199] at H
                    have c199b0 := decide_eq_true c199
                    clear c199
                    by_cases c200 : x36_5 < (t679.length : Int)
                    case neg =>
                     rw [if_neg c200] at H
                     exact absurd H (by simp)
                    rw [if_pos c200] at H
                    have c200b0 := decide_eq_true c200
                    clear c200
                    by_cases c201 : ((rd_T81 t683 x36_5).f2) < ((rd_T81 t679 x36_5).f2)
                    case pos =>
                     rw [if_pos c201] at H
                     have c201b0 := decide_eq_true c201
                     clear c201
                     exact absurd ((Option.some.inj H).trans hT) (by decide)
                    rw [if_neg c201] at H
                    have c201b0 := decide_eq_false c201
                    clear c201
                    by_cases c204 : ((rd_T81 t683 x36_5).f0) = ((rd_T81 t679 x36_5).f0)
                    case neg =>
                     rw [if_neg c204] at H
                     have c204b0 := beq_eq_false_iff_ne.mpr c204
                     have c204b1 := bne_iff_ne.mpr c204
                     exact absurd ((Option.some.inj H).trans hT) (by decide)
                    rw [if_pos c204] at H
                    have c204b0 := beq_iff_eq.mpr c204
                    have c204b1 := bne_eq_false_iff_eq.mpr c204
                    clear c204
                    by_cases c205 : ((rd_T81 t683 x36_5).f1) = ((rd_T81 t679 x36_5).f1)
                    case neg =>
                     rw [if_neg c205] at H
                     have c205b0 := beq_eq_false_iff_ne.mpr c205
                     have c205b1 := bne_iff_ne.mpr c205
                     exact absurd ((Option.some.inj H).trans hT) (by decide)
                    rw [if_pos c205] at H
                    have c205b0 := beq_iff_eq.mpr c205
                    have c205b1 := bne_eq_false_iff_eq.mpr c205
                    clear c205
                    have H' := Aside0.mk H
                    clear H
                    try go_wp2
                    replace HO_3 := Aside0.mk (Kd.R_drew HO_3.out)
                    replace HO_5 := Aside0.mk (Kd.R_drew HO_5.out)
                    replace HB := Aside0.mk (below_drew1 HB.out)
                    obtain ⟨Ao207, co207, eo207⟩ := Kd.R_slice HO_5.out
                    (first | subst eo207 | (injection eo207 with f1_ f2_ f3_; have f4_ := f1_.symm; have f5_ := f3_.symm; clear f1_ f2_ f3_; subst f4_; subst f5_))
                    have p755 : 0 ≤ (x36_5 : Int) := od_
                    have q755 : x36_5 < (t683.length : Int) := od_
                    obtain ⟨ad755, e755, hx755_0, hx755_1, hx755_2⟩ := at_T81 (Kd.R_reads' HO_5.out).2.2 x36_5 p755 q755
                    cases e755
                    replace p755 := eq_true p755
                    replace q755 := eq_true q755
                    have p756 : 0 ≤ (x36_5 : Int) := od_
                    have q756 : x36_5 < (t679.length : Int) := od_
                    obtain ⟨ad756, e756, hx756_0, hx756_1, hx756_2⟩ := at_T81 (Kd.R_reads' HO_3.out).2.2 x36_5 p756 q756
                    cases e756
                    replace p756 := eq_true p756
                    replace q756 := eq_true q756
                    have p757 : 0 ≤ (x36_5 : Int) := od_
                    have q757 : x36_5 < (t683.length : Int) := od_
                    obtain ⟨ad757, e757, hx757_0, hx757_1, hx757_2⟩ := at_T81 (Kd.R_reads' HO_5.out).2.2 x36_5 p757 q757
                    obtain rfl : ad755 = ad757 := (by injection e757)
                    replace p757 := eq_true p757
                    replace q757 := eq_true q757
                    have p758 : 0 ≤ (x36_5 : Int) := od_
                    have q758 : x36_5 < (t679.length : Int) := od_
                    obtain ⟨ad758, e758, hx758_0, hx758_1, hx758_2⟩ := at_T81 (Kd.R_reads' HO_3.out).2.2 x36_5 p758 q758
                    obtain rfl : ad756 = ad758 := (by injection e758)
                    replace p758 := eq_true p758
                    replace q758 := eq_true q758
                    have p759 : 0 ≤ (x36_5 : Int) := od_
                    have q759 : x36_5 < (t683.length : Int) := od_
                    obtain ⟨ad759, e759, hx759_0, hx759_1, hx759_2⟩ := at_T81 (Kd.R_reads' HO_5.out).2.2 x36_5 p759 q759
                    obtain rfl : ad755 = ad759 := (by injection e759)
                    replace p759 := eq_true p759
                    replace q759 := eq_true q759
                    have p760 : 0 ≤ (x36_5 : Int) := od_
                    have q760 : x36_5 < (t679.length : Int) := od_
                    obtain ⟨ad760, e760, hx760_0, hx760_1, hx760_2⟩ := at_T81 (Kd.R_reads' HO_3.out).2.2 x36_5 p760 q760
                    obtain rfl : ad756 = ad760 := (by injection e760)
                    replace p760 := eq_true p760
                    replace q760 := eq_true q760
                    refine start_ (n := 37) (S := fun w' => w'.cell? (ad755.add ((x36_5).toNat * 3)) = some (.int .i64 ((rd_T81 t683 x36_5).f0)) ∧ w'.cell? ⟨(ad755.add ((x36_5).toNat * 3)).block, (ad755.add ((x36_5).toNat * 3)).off + 1, none⟩ = some (.int .i64 ((rd_T81 t683 x36_5).f1)) ∧ w'.cell? ⟨(ad755.add ((x36_5).toNat * 3)).block, (ad755.add ((x36_5).toNat * 3)).off + 2, none⟩ = some (.int .i64 ((rd_T81 t683 x36_5).f2)) ∧ w'.cell? (ad756.add ((x36_5).toNat * 3)) = some (.int .i64 ((rd_T81 t679 x36_5).f0)) ∧ w'.cell? ⟨(ad756.add ((x36_5).toNat * 3)).block, (ad756.add ((x36_5).toNat * 3)).off + 1, none⟩ = some (.int .i64 ((rd_T81 t679 x36_5).f1)) ∧ w'.cell? ⟨(ad756.add ((x36_5).toNat * 3)).block, (ad756.add ((x36_5).toNat * 3)).off + 2, none⟩ = some (.int .i64 ((rd_T81 t679 x36_5).f2)) ∧ w'.cell? (ad755.add ((x36_5).toNat * 3)) = some (.int .i64 ((rd_T81 t683 x36_5).f0)) ∧ w'.cell? ⟨(ad755.add ((x36_5).toNat * 3)).block, (ad755.add ((x36_5).toNat * 3)).off + 1, none⟩ = some (.int .i64 ((rd_T81 t683 x36_5).f1)) ∧ w'.cell? ⟨(ad755.add ((x36_5).toNat * 3)).block, (ad755.add ((x36_5).toNat * 3)).off + 2, none⟩ = some (.int .i64 ((rd_T81 t683 x36_5).f2)) ∧ w'.cell? (ad756.add ((x36_5).toNat * 3)) = some (.int .i64 ((rd_T81 t679 x36_5).f0)) ∧ w'.cell? ⟨(ad756.add ((x36_5).toNat * 3)).block, (ad756.add ((x36_5).toNat * 3)).off + 1, none⟩ = some (.int .i64 ((rd_T81 t679 x36_5).f1)) ∧ w'.cell? ⟨(ad756.add ((x36_5).toNat * 3)).block, (ad756.add ((x36_5).toNat * 3)).off + 2, none⟩ = some (.int .i64 ((rd_T81 t679 x36_5).f2)) ∧ w'.cell? (ad755.add ((x36_5).toNat * 3)) = some (.int .i64 ((rd_T81 t683 x36_5).f0)) ∧ w'.cell? ⟨(ad755.add ((x36_5).toNat * 3)).block, (ad755.add ((x36_5).toNat * 3)).off + 1, none⟩ = some (.int .i64 ((rd_T81 t683 x36_5).f1)) ∧ w'.cell? ⟨(ad755.add ((x36_5).toNat * 3)).block, (ad755.add ((x36_5).toNat * 3)).off + 2, none⟩ = some (.int .i64 ((rd_T81 t683 x36_5).f2)) ∧ w'.cell? (ad756.add ((x36_5).toNat * 3)) = some (.int .i64 ((rd_T81 t679 x36_5).f0)) ∧ w'.cell? ⟨(ad756.add ((x36_5).toNat * 3)).block, (ad756.add ((x36_5).toNat * 3)).off + 1, none⟩ = some (.int .i64 ((rd_T81 t679 x36_5).f1)) ∧ w'.cell? ⟨(ad756.add ((x36_5).toNat * 3)).block, (ad756.add ((x36_5).toNat * 3)).off + 2, none⟩ = some (.int .i64 ((rd_T81 t679 x36_5).f2))) (ds := []) #[f_,f_,f_,f_,f_,f_,f_,f_,f_,f_,f_,f_,f_,f_,f_,f_,f_,f_,f_,f_,f_,f_,f_,f_,f_,f_,f_,f_,f_,f_,f_,f_,f_,f_,f_,f_,f_] (by kernel_rfl) rfl rfl ⟨hx755_0, hx755_1, hx755_2, hx756_0, hx756_1, hx756_2, hx757_0, hx757_1, hx757_2, hx758_0, hx758_1, hx758_2, hx759_0, hx759_1, hx759_2, hx760_0, hx760_1, hx760_2⟩ (fun hHeld => ?_); refine with_tabW laws_FnTables.tab31 laws_FnTables.bits31 (fun HT_ HW_ => ?_)
                    generalize wc.drew = w206 at HO_3 HO_5 HB hx755_0 hx755_1 hx755_2 hx756_0 hx756_1 hx756_2 hx757_0 hx757_1 hx757_2 hx758_0 hx758_1 hx758_2 hx759_0 hx759_1 hx759_2 hx760_0 hx760_1 hx760_2 hHeld ⊢
                    refine pv_ 0 246 HT_.out ?_
                    refine pv_ 1 247 HT_.out ?_
                    refine pv_ 2 248 HT_.out ?_
                    refine pv_ 3 249 HT_.out ?_
                    refine pv_ 5 251 HT_.out ?_
                    refine pv_ 6 252 HT_.out ?_
                    refine pv_ 7 253 HT_.out ?_
                    refine pv_ 8 254 HT_.out ?_
                    refine tv18_ 4 250 HT_.out HW_.out hHeld ?_
                    refine tv18_ 9 255 HT_.out HW_.out hHeld ?_
                    refine pv_ 10 256 HT_.out ?_
                    refine pv_ 11 257 HT_.out ?_
                    refine pv_ 12 258 HT_.out ?_
                    refine pv_ 13 259 HT_.out ?_
                    refine pv_ 14 260 HT_.out ?_
                    refine pv_ 15 261 HT_.out ?_
                    refine pv_ 17 263 HT_.out ?_
                    refine pv_ 18 264 HT_.out ?_
                    refine pv_ 19 265 HT_.out ?_
                    refine pv_ 20 266 HT_.out ?_
                    refine tv18_ 16 262 HT_.out HW_.out hHeld ?_
                    refine tv18_ 21 267 HT_.out HW_.out hHeld ?_
                    refine pv_ 22 268 HT_.out ?_
                    refine pv_ 23 269 HT_.out ?_
                    refine pv_ 24 270 HT_.out ?_
                    refine pv_ 25 271 HT_.out ?_
                    refine pv_ 26 272 HT_.out ?_
                    refine pv_ 27 273 HT_.out ?_
                    refine pv_ 28 274 HT_.out ?_
                    refine pv_ 30 276 HT_.out ?_
                    refine pv_ 31 277 HT_.out ?_
                    refine pv_ 32 278 HT_.out ?_
                    refine pv_ 33 279 HT_.out ?_
                    refine tv18_ 29 275 HT_.out HW_.out hHeld ?_
                    refine tv18_ 34 280 HT_.out HW_.out hHeld ?_
                    refine pv_ 35 281 HT_.out ?_
                    refine pu_ 36 282 #[t_,t_,t_,t_,t_,t_,t_,t_,t_,t_,t_,t_,t_,t_,t_,t_,t_,t_,t_,t_,t_,t_,t_,t_,t_,t_,t_,t_,t_,t_,t_,t_,t_,t_,t_,t_,t_] HT_.out ?_
                    refine done_ (done_of HT_.out (by kernel_rfl)) ?_
                    try go_wp2
                    go_roundg kj193
                    case measure => have := HJ12.out; have := HK2.out; have := HJ65.out; have := HJ83.out; have := HK5.out; have := HJ193.out; omega
                    case rel => exact ⟨(wrap64 (x36_5 + 1)), rs_, H', ⟨by have := HJ12.out; have := HK2.out; have := HJ65.out; have := HJ83.out; have := HK5.out; have := HJ193.out; omega⟩, ⟨rk_ HO_3.out⟩, ⟨rk_ HO_5.out⟩, ⟨bl_ HB.out⟩⟩
/-- THE ONE PURE STATEMENT of laws_FnTables: yours. -/
def laws_FnTables.Pure : Prop := ∀ (l0 : List Int), l0.length ≤ maxLen → l0.length * 1 ≤ 140737488351232 → (∀ x ∈ l0, (Lit.int .u8 x).wf = true) → ∃ k, laws_FnTables.f k l0 = some true
theorem laws_FnTables.walk (P : laws_FnTables.Pure) (a0 : Option Addr) (len0 cap0 : Nat) (z0 : List Int) (w : World) (w0 : (a0 = none ∧ len0 = 0 ∧ cap0 = 0 ∧ z0 = []) ∨ ∃ x, a0 = some x ∧ len0 ≤ cap0 ∧ cap0 ≤ maxLen ∧ z0.length = cap0 ∧ (∀ i, i < z0.length → w.cell? (x.add i) = some (.int .u8 (z0.getD i 0))) ∧ ∀ n ∈ z0, (Lit.int .u8 n).wf = true) (y0 : len0 * 1 ≤ 140737488351232) :
  Calls Try.prog 5 #[.slice a0 len0 cap0] w fun e w' => e = .returned (.bool true) ∧ Below w.heap.size w w' := by
 obtain ⟨l0, rfl, hr0, hm0, hw0, hc0⟩ := ReadsInt.ofRowC w0
 obtain ⟨k, h⟩ := P l0 hm0 y0 hw0
 refine (laws_FnTables.calls k _ _ l0 true w (Kd.C_of_reads (d := (0 : Int)) (h1 := fun _ => rfl) hr0) hc0 h rfl).mono ?_
 rintro e w' ⟨rfl, hd⟩
 exact ⟨rfl, hd⟩
end Go.Proofs.Ytedcdhnbceaaeaa.PFnTables
