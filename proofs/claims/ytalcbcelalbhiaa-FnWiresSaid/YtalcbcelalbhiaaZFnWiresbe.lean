/- QFnWiresh of the law FnWires: taken over, declaration by declaration, as far as the law leans on it (the words and the printed functions are the kit's own print). No condition but what each says. -/
import Derived.Test.YtalcbcelalbhiaaZFnWiresav
import Derived.Test.YtalcbcelalbhiaaZFnWiresaw
import Derived.Test.YtalcbcelalbhiaaZFnWiresax
import Derived.Test.YtalcbcelalbhiaaZFnWiresay
import Derived.Test.YtalcbcelalbhiaaZFnWiresaz
import Derived.Test.YtalcbcelalbhiaaZFnWiresba
import Derived.Test.YtalcbcelalbhiaaZFnWiresbb
import Derived.Test.YtalcbcelalbhiaaZFnWiresbc
import Derived.Test.YtalcbcelalbhiaaZFnWiresbd
namespace Go.Proofs.Ytalcbcelalbhiaa.PFnWires
open Go.RowKit Go.Proofs.YtalcbcelalbhiaaW.PrintWords Go.Proofs.YtalcbcelalbhiaaW.PrintLast Go.Proofs.YtalcbcelalbhiaaW.PrintMore
attribute [local go_sem] max2_int min2_int max_two min_two max_three min_three max_four min_four   -- for this text's walks alone
set_option linter.unusedVariables false
set_option linter.unusedSimpArgs false
open Bool renaming true → t_, false → f_
def impl_CutWire.f (k : Nat) (l0 : List (S98)) (a1 : Int) (l2 : List (S103)) (a3 : Int) : Option ((List (S103)) × Int) := (impl_AreWires.f k l0 a1 l2).bind fun t412 => (if t412 = true then ((impl_within.f a3 0 (wrap64 (a1 - 1))).bind fun t413 => (if t413 = true then ((impl_wireOf.f k l2 a3).bind fun t414 => (if t414 < 0 then (some (([] : List (S103)), 4)) else ((some (([] : List (S103)) : List (S103))).bind fun y415 => (if 0 ≤ t414 then (if t414 ≤ (l2.length : Int) then ((some (l2.take (t414 : Int).toNat : List (S103))).bind fun y418 => (if y415.length + y418.length < 5864062014805 then ((some (y415 ++ y418 : List (S103))).bind fun y422 => (if 0 ≤ (wrap64 (t414 + 1)) then (if (wrap64 (t414 + 1)) ≤ (l2.length : Int) then ((some (l2.drop ((wrap64 (t414 + 1)) : Int).toNat : List (S103))).bind fun y425 => (if y422.length + y425.length < 5864062014805 then (some ((y422 ++ y425), 0)) else (none))) else (none)) else (none))) else (none))) else (none)) else (none))))) else (some (([] : List (S103)), 2)))) else (some (([] : List (S103)), 1)))
theorem impl_CutWire.mono : ∀ a0 a1 a2 a3 k, LeO (impl_CutWire.f k a0 a1 a2 a3) (impl_CutWire.f (k + 1) a0 a1 a2 a3) := by
 intro a0 a1 a2 a3 k
 unfold impl_CutWire.f
 repeat' first
   | (with_reducible exact impl_AreWires.mono _ _ _ _)
   | (with_reducible exact impl_wireOf.mono _ _ _)
   | (with_reducible exact LeO.refl _)
   | (with_reducible exact LeO.none _)
   | (with_reducible refine LeO.ite ?_ ?_)
   | (with_reducible refine LeO.bind ?_ (fun _ => ?_))
   | exact impl_AreWires.mono _ _ _ _
   | exact impl_wireOf.mono _ _ _
   | exact LeO.none _
   | refine LeO.ite ?_ ?_
   | refine LeO.bind ?_ (fun _ => ?_)
def impl_CutWire.T8 : Bool × List (List Nat × List Nat) := (true, [([], []), ([], []), ([], []), ([1, 2], [1, 2]), ([0, 3], [0, 3]), ([], []), ([], []), ([6], [6]), ([5, 7], [5, 7]), ([4, 8, 4], [4, 8]), ([9, 9, 0, 1, 2, 3, 4, 5, 6, 7, 8, 9], [9]), ([10, 0, 1, 2, 3, 4, 5, 6, 7, 8, 9, 10], [])])
def impl_CutWire.B8 : List Nat := [0, 0, 0, 6, 15, 0, 0, 64, 224, 511, 1023, 2047]
theorem impl_CutWire.tab8 : rtab .any (opsOf Try.f60 8) = impl_CutWire.T8 := by kernel_rfl
theorem impl_CutWire.bits8 : waitsOk impl_CutWire.T8.2 impl_CutWire.B8 = true := by kernel_rfl
set_option maxHeartbeats 8000000 in
set_option maxRecDepth 100000 in
theorem impl_CutWire.calls (k : Nat) (A0 : Option Addr) (c0 : Nat) (l0 : List (S98)) (a1 : Int) (A2 : Option Addr) (c2 : Nat) (l2 : List (S103)) (a3 : Int) (r1 : List (S103)) (r2 : Int) (w : World) (hr0 : Kd.C k98 w A0 l0.length l0) (hc0 : l0.length ≤ c0) (hr2 : Kd.C k103 w A2 l2.length l2) (hc2 : l2.length ≤ c2) (h : impl_CutWire.f k l0 a1 l2 a3 = some (r1, r2)) :
  Calls Try.prog 60 #[.slice A0 l0.length c0, .int .i64 a1, .slice A2 l2.length c2, .int .i64 a3] w fun e w' => ∃ v0_ : Value, e = .returned (.tuple #[v0_, .int .i64 r2]) ∧ Kd.R k103 103 w' w.heap.size (fun _ => True) v0_ r1 ∧ Below w.heap.size w w' := by
 have HR0 := Aside0.mk hr0
 have HC0 := Aside0.mk hc0
 clear hr0 hc0
 have HR2 := Aside0.mk hr2
 have HC2 := Aside0.mk hc2
 clear hr2 hc2
 have HB := Aside0.mk (Below.refl w.heap.size w)
 have H : ((impl_AreWires.f k l0 a1 l2).bind fun t412 => (if t412 = true then ((impl_within.f a3 0 (wrap64 (a1 - 1))).bind fun t413 => (if t413 = true then ((impl_wireOf.f k l2 a3).bind fun t414 => (if t414 < 0 then (some (([] : List (S103)), 4)) else ((some (([] : List (S103)) : List (S103))).bind fun y415 => (if 0 ≤ t414 then (if t414 ≤ (l2.length : Int) then ((some (l2.take (t414 : Int).toNat : List (S103))).bind fun y418 => (if y415.length + y418.length < 5864062014805 then ((some (y415 ++ y418 : List (S103))).bind fun y422 => (if 0 ≤ (wrap64 (t414 + 1)) then (if (wrap64 (t414 + 1)) ≤ (l2.length : Int) then ((some (l2.drop ((wrap64 (t414 + 1)) : Int).toNat : List (S103))).bind fun y425 => (if y422.length + y425.length < 5864062014805 then (some ((y422 ++ y425), 0)) else (none))) else (none)) else (none))) else (none))) else (none)) else (none))))) else (some (([] : List (S103)), 2)))) else (some (([] : List (S103)), 1)))) = some (r1, r2) := h
 clear h
 replace H := Option.bind_eq_some_iff.mp H
 obtain ⟨t412, A50, H⟩ := H
 replace H : (if t412 = true then ((impl_within.f a3 0 (wrap64 (a1 - 1))).bind fun t413 => (if t413 = true then ((impl_wireOf.f k l2 a3).bind fun t414 => (if t414 < 0 then (some (([] : List (S103)), 4)) else ((some (([] : List (S103)) : List (S103))).bind fun y415 => (if 0 ≤ t414 then (if t414 ≤ (l2.length : Int) then ((some (l2.take (t414 : Int).toNat : List (S103))).bind fun y418 => (if y415.length + y418.length < 5864062014805 then ((some (y415 ++ y418 : List (S103))).bind fun y422 => (if 0 ≤ (wrap64 (t414 + 1)) then (if (wrap64 (t414 + 1)) ≤ (l2.length : Int) then ((some (l2.drop ((wrap64 (t414 + 1)) : Int).toNat : List (S103))).bind fun y425 => (if y422.length + y425.length < 5864062014805 then (some ((y422 ++ y425), 0)) else (none))) else (none)) else (none))) else (none))) else (none)) else (none))))) else (some (([] : List (S103)), 2)))) else (some (([] : List (S103)), 1))) = some (r1, r2) := H
 have A5 := Aside0.mk A50
 clear A50
 by_cases c6 : t412 = true
 ·subst c6
  have H1 : ((impl_within.f a3 0 (wrap64 (a1 - 1))).bind fun t413 => (if t413 = true then ((impl_wireOf.f k l2 a3).bind fun t414 => (if t414 < 0 then (some (([] : List (S103)), 4)) else ((some (([] : List (S103)) : List (S103))).bind fun y415 => (if 0 ≤ t414 then (if t414 ≤ (l2.length : Int) then ((some (l2.take (t414 : Int).toNat : List (S103))).bind fun y418 => (if y415.length + y418.length < 5864062014805 then ((some (y415 ++ y418 : List (S103))).bind fun y422 => (if 0 ≤ (wrap64 (t414 + 1)) then (if (wrap64 (t414 + 1)) ≤ (l2.length : Int) then ((some (l2.drop ((wrap64 (t414 + 1)) : Int).toNat : List (S103))).bind fun y425 => (if y422.length + y425.length < 5864062014805 then (some ((y422 ++ y425), 0)) else (none))) else (none)) else (none))) else (none))) else (none)) else (none))))) else (some (([] : List (S103)), 2)))) = some (r1, r2) := by rw [if_pos rfl] at H; exact H
  clear H
  have H := H1
  clear H1
  replace H := Option.bind_eq_some_iff.mp H
  obtain ⟨t413, A70, H⟩ := H
  replace H : (if t413 = true then ((impl_wireOf.f k l2 a3).bind fun t414 => (if t414 < 0 then (some (([] : List (S103)), 4)) else ((some (([] : List (S103)) : List (S103))).bind fun y415 => (if 0 ≤ t414 then (if t414 ≤ (l2.length : Int) then ((some (l2.take (t414 : Int).toNat : List (S103))).bind fun y418 => (if y415.length + y418.length < 5864062014805 then ((some (y415 ++ y418 : List (S103))).bind fun y422 => (if 0 ≤ (wrap64 (t414 + 1)) then (if (wrap64 (t414 + 1)) ≤ (l2.length : Int) then ((some (l2.drop ((wrap64 (t414 + 1)) : Int).toNat : List (S103))).bind fun y425 => (if y422.length + y425.length < 5864062014805 then (some ((y422 ++ y425), 0)) else (none))) else (none)) else (none))) else (none))) else (none)) else (none))))) else (some (([] : List (S103)), 2))) = some (r1, r2) := H
  have A7 := Aside0.mk A70
  clear A70
  by_cases c8 : t413 = true
  ·subst c8
   have H1 : ((impl_wireOf.f k l2 a3).bind fun t414 => (if t414 < 0 then (some (([] : List (S103)), 4)) else ((some (([] : List (S103)) : List (S103))).bind fun y415 => (if 0 ≤ t414 then (if t414 ≤ (l2.length : Int) then ((some (l2.take (t414 : Int).toNat : List (S103))).bind fun y418 => (if y415.length + y418.length < 5864062014805 then ((some (y415 ++ y418 : List (S103))).bind fun y422 => (if 0 ≤ (wrap64 (t414 + 1)) then (if (wrap64 (t414 + 1)) ≤ (l2.length : Int) then ((some (l2.drop ((wrap64 (t414 + 1)) : Int).toNat : List (S103))).bind fun y425 => (if y422.length + y425.length < 5864062014805 then (some ((y422 ++ y425), 0)) else (none))) else (none)) else (none))) else (none))) else (none)) else (none))))) = some (r1, r2) := by rw [if_pos rfl] at H; exact H
   clear H
   have H := H1
   clear H1
   replace H := Option.bind_eq_some_iff.mp H
   obtain ⟨t414, A90, H⟩ := H
   replace H : (if t414 < 0 then (some (([] : List (S103)), 4)) else ((some (([] : List (S103)) : List (S103))).bind fun y415 => (if 0 ≤ t414 then (if t414 ≤ (l2.length : Int) then ((some (l2.take (t414 : Int).toNat : List (S103))).bind fun y418 => (if y415.length + y418.length < 5864062014805 then ((some (y415 ++ y418 : List (S103))).bind fun y422 => (if 0 ≤ (wrap64 (t414 + 1)) then (if (wrap64 (t414 + 1)) ≤ (l2.length : Int) then ((some (l2.drop ((wrap64 (t414 + 1)) : Int).toNat : List (S103))).bind fun y425 => (if y422.length + y425.length < 5864062014805 then (some ((y422 ++ y425), 0)) else (none))) else (none)) else (none))) else (none))) else (none)) else (none)))) = some (r1, r2) := H
   have A9 := Aside0.mk A90
   clear A90
   by_cases c10 : t414 < 0
   ·rw [if_pos c10] at H
    have c10b0 : decide (t414 < 0) = true := decide_eq_true c10
    clear c10
    simp only [Option.some.injEq, Prod.mk.injEq] at H
    obtain ⟨rfl, rfl⟩ := H
    go_enter Try.func60, Try.ntmps60
    go_wp2_with (first | ((with_reducible refine gate_callee (f := 68) rfl ?_); refine goesL_ (some 14) rfl rfl Try.func68 (by kernel_rfl) rfl #[.slice A0 l0.length c0, .int .i64 a1, .slice A2 l2.length c2] rfl ag_ ?_; (with_reducible refine (impl_AreWires.calls k _ _ l0 a1 _ _ l2 true _ ?side1 ?side2 ?side3 ?side4 A5.out).mono ?_); (case side1 => exact r6_ HR0.out); (case side2 => exact HC0.out); (case side3 => exact r6_ HR2.out); (case side4 => exact HC2.out); rintro e w11 ⟨rfl, hb⟩; refine ⟨_, rfl, ?_⟩; have n0_ := Aside0.mk (below_step (bl_ HB.out) hb); clear HB; have HB := n0_; clear n0_; (try clear hb); (try clear hb2); (try clear hk); (try clear hi)) | ((with_reducible refine gate_callee (f := 78) rfl ?_); refine goesL_ (some 19) rfl rfl Try.func78 (by kernel_rfl) rfl #[.int .i64 a3, .int .i64 0, .int .i64 (wrap64 (a1 - 1))] rfl ag_ ?_; (with_reducible refine (impl_within.calls a3 0 (wrap64 (a1 - 1)) true _ A7.out).mono ?_); rintro e w' ⟨rfl, ⟨nd, rfl⟩⟩; refine ⟨_, rfl, ?_⟩) | ((with_reducible refine gate_callee (f := 79) rfl ?_); refine goesL_ (some 23) rfl rfl Try.func79 (by kernel_rfl) rfl #[.slice A2 l2.length c2, .int .i64 a3] rfl ag_ ?_; (with_reducible refine (impl_wireOf.calls k _ _ l2 a3 t414 _ ?side1 ?side2 A9.out).mono ?_); (case side1 => exact r12_ HR2.out HB.out); (case side2 => exact HC2.out); rintro e w12 ⟨rfl, hb⟩; refine ⟨_, rfl, ?_⟩; have n0_ := Aside0.mk (below_step (bl_ HB.out) hb); clear HB; have HB := n0_; clear n0_; (try clear hb); (try clear hb2); (try clear hk); (try clear hi)))
    go_ret2
    exact ⟨_, by first | rfl | (simp [errW_none, errW_some] <;> rfl) | (simp [*, errW_none, errW_some] <;> rfl), by first | exact Kd.R_nil _ _ _ _ _ | exact Kd.N_nil _ _ _ _ _ | exact Kd.V_nil _ _ _ _ _ | exact Kd.Q_nil _ _ _ _ _ | exact Kd.S_nil _ _ _ _ _, bl_ HB.out⟩
   ·rw [if_neg c10] at H
    have c10b0 : decide (t414 < 0) = false := decide_eq_false c10
    clear c10
    obtain ⟨y415, hy415⟩ : ∃ y_ : List (S103), y_ = (([] : List (S103))) := ⟨_, rfl⟩
    replace H : (if 0 ≤ t414 then (if t414 ≤ (l2.length : Int) then ((some (l2.take (t414 : Int).toNat : List (S103))).bind fun y418 => (if y415.length + y418.length < 5864062014805 then ((some (y415 ++ y418 : List (S103))).bind fun y422 => (if 0 ≤ (wrap64 (t414 + 1)) then (if (wrap64 (t414 + 1)) ≤ (l2.length : Int) then ((some (l2.drop ((wrap64 (t414 + 1)) : Int).toNat : List (S103))).bind fun y425 => (if y422.length + y425.length < 5864062014805 then (some ((y422 ++ y425), 0)) else (none))) else (none)) else (none))) else (none))) else (none)) else (none)) = some (r1, r2) := by first | (rw [hy415]; with_reducible exact H) | (have H2_ := (Option.bind_some _ _).symm.trans H; rw [hy415]; with_reducible exact H2_) | (have H2_ := (Option.bind_some _ _).symm.trans H; with_reducible exact H2_) | with_reducible exact H | (rw [hy415]; exact H) | exact H
    have Ny415 := Aside0.mk hy415
    clear hy415
    by_cases c13 : 0 ≤ t414
    case neg =>
     rw [if_neg c13] at H
     exact absurd H (by simp)
    rw [if_pos c13] at H
    have c13b0 := eq_true c13
    have c13b1 : decide (0 ≤ t414) = true := decide_eq_true c13
    clear c13
    by_cases c14 : t414 ≤ (l2.length : Int)
    case neg =>
     rw [if_neg c14] at H
     exact absurd H (by simp)
    rw [if_pos c14] at H
    have c14b0 := eq_true c14
    have c14b1 : decide (t414 ≤ (l2.length : Int)) = true := decide_eq_true c14
    clear c14
    obtain ⟨y418, hy418⟩ : ∃ y_ : List (S103), y_ = (l2.take (t414 : Int).toNat) := ⟨_, rfl⟩
    replace H : (if y415.length + y418.length < 5864062014805 then ((some (y415 ++ y418 : List (S103))).bind fun y422 => (if 0 ≤ (wrap64 (t414 + 1)) then (if (wrap64 (t414 + 1)) ≤ (l2.length : Int) then ((some (l2.drop ((wrap64 (t414 + 1)) : Int).toNat : List (S103))).bind fun y425 => (if y422.length + y425.length < 5864062014805 then (some ((y422 ++ y425), 0)) else (none))) else (none)) else (none))) else (none)) = some (r1, r2) := by first | (rw [hy418]; with_reducible exact H) | (have H2_ := (Option.bind_some _ _).symm.trans H; rw [hy418]; with_reducible exact H2_) | (have H2_ := (Option.bind_some _ _).symm.trans H; with_reducible exact H2_) | with_reducible exact H | (rw [hy418]; exact H) | exact H
    have Ny418 := Aside0.mk hy418
    clear hy418
    by_cases c15 : y415.length + y418.length < 5864062014805
    case neg =>
     rw [if_neg c15] at H
     exact absurd H (by simp)
    rw [if_pos c15] at H
    have LMc15 := Aside0.mk c15
    clear c15
    obtain ⟨y422, hy422⟩ : ∃ y_ : List (S103), y_ = (y415 ++ y418) := ⟨_, rfl⟩
    replace H : (if 0 ≤ (wrap64 (t414 + 1)) then (if (wrap64 (t414 + 1)) ≤ (l2.length : Int) then ((some (l2.drop ((wrap64 (t414 + 1)) : Int).toNat : List (S103))).bind fun y425 => (if y422.length + y425.length < 5864062014805 then (some ((y422 ++ y425), 0)) else (none))) else (none)) else (none)) = some (r1, r2) := by first | (rw [hy422]; with_reducible exact H) | (have H2_ := (Option.bind_some _ _).symm.trans H; rw [hy422]; with_reducible exact H2_) | (have H2_ := (Option.bind_some _ _).symm.trans H; with_reducible exact H2_) | with_reducible exact H | (rw [hy422]; exact H) | exact H
    have Ny422 := Aside0.mk hy422
    clear hy422
    obtain ⟨ji16, hji16⟩ : ∃ j_ : Int, (wrap64 (t414 + 1)) = j_ := ⟨_, rfl⟩
    replace H : (if 0 ≤ (ji16) then (if (ji16) ≤ (l2.length : Int) then ((some (l2.drop ((ji16) : Int).toNat : List (S103))).bind fun y425 => (if y422.length + y425.length < 5864062014805 then (some ((y422 ++ y425), 0)) else (none))) else (none)) else (none)) = some (r1, r2) := by first | (rw [hji16] at H; exact H) | (simp only [hji16] at H ⊢; exact H)
    (try rw [hji16] at A5)
    (try rw [hji16] at A7)
    (try rw [hji16] at A9)
    have hji16w : (IntKind.i64.wrap (t414 + 1)) = ji16 := (i64_w _).trans hji16
    by_cases c17 : 0 ≤ (ji16)
    case neg =>
     rw [if_neg c17] at H
     exact absurd H (by simp)
    rw [if_pos c17] at H
    have c17b0 := eq_true c17
    have c17b1 : decide (0 ≤ (ji16)) = true := decide_eq_true c17
    clear c17
    by_cases c18 : (ji16) ≤ (l2.length : Int)
    case neg =>
     rw [if_neg c18] at H
     exact absurd H (by simp)
    rw [if_pos c18] at H
    have c18b0 := eq_true c18
    have c18b1 : decide ((ji16) ≤ (l2.length : Int)) = true := decide_eq_true c18
    clear c18
    obtain ⟨y425, hy425⟩ : ∃ y_ : List (S103), y_ = (l2.drop ((ji16) : Int).toNat) := ⟨_, rfl⟩
    replace H : (if y422.length + y425.length < 5864062014805 then (some ((y422 ++ y425), 0)) else (none)) = some (r1, r2) := by first | (rw [hy425]; with_reducible exact H) | (have H2_ := (Option.bind_some _ _).symm.trans H; rw [hy425]; with_reducible exact H2_) | (have H2_ := (Option.bind_some _ _).symm.trans H; with_reducible exact H2_) | with_reducible exact H | (rw [hy425]; exact H) | exact H
    have Ny425 := Aside0.mk hy425
    clear hy425
    by_cases c19 : y422.length + y425.length < 5864062014805
    case neg =>
     rw [if_neg c19] at H
     exact absurd H (by simp)
    rw [if_pos c19] at H
    have LMc19 := Aside0.mk c19
    clear c19
    obtain ⟨y429, hy429⟩ : ∃ y_ : List (S103), y_ = (y422 ++ y425) := ⟨_, rfl⟩
    replace H : (some (y429, 0)) = some (r1, r2) := by first | (rw [hy429]; with_reducible exact H) | (have H2_ := (Option.bind_some _ _).symm.trans H; rw [hy429]; with_reducible exact H2_) | (have H2_ := (Option.bind_some _ _).symm.trans H; with_reducible exact H2_) | with_reducible exact H | (rw [hy429]; exact H) | exact H
    have Ny429 := Aside0.mk hy429
    clear hy429
    simp only [Option.some.injEq, Prod.mk.injEq] at H
    obtain ⟨rfl, rfl⟩ := H
    go_enter Try.func60, Try.ntmps60
    try go_wp2_with (first | ((with_reducible refine gate_callee (f := 68) rfl ?_); refine goesL_ (some 14) rfl rfl Try.func68 (by kernel_rfl) rfl #[.slice A0 l0.length c0, .int .i64 a1, .slice A2 l2.length c2] rfl ag_ ?_; (with_reducible refine (impl_AreWires.calls k _ _ l0 a1 _ _ l2 true _ ?side1 ?side2 ?side3 ?side4 A5.out).mono ?_); (case side1 => exact r6_ HR0.out); (case side2 => exact HC0.out); (case side3 => exact r6_ HR2.out); (case side4 => exact HC2.out); rintro e w20 ⟨rfl, hb⟩; refine ⟨_, rfl, ?_⟩; have n0_ := Aside0.mk (below_step (bl_ HB.out) hb); clear HB; have HB := n0_; clear n0_; (try clear hb); (try clear hb2); (try clear hk); (try clear hi)) | ((with_reducible refine gate_callee (f := 78) rfl ?_); refine goesL_ (some 19) rfl rfl Try.func78 (by kernel_rfl) rfl #[.int .i64 a3, .int .i64 0, .int .i64 (wrap64 (a1 - 1))] rfl ag_ ?_; (with_reducible refine (impl_within.calls a3 0 (wrap64 (a1 - 1)) true _ A7.out).mono ?_); rintro e w' ⟨rfl, ⟨nd, rfl⟩⟩; refine ⟨_, rfl, ?_⟩) | ((with_reducible refine gate_callee (f := 79) rfl ?_); refine goesL_ (some 23) rfl rfl Try.func79 (by kernel_rfl) rfl #[.slice A2 l2.length c2, .int .i64 a3] rfl ag_ ?_; (with_reducible refine (impl_wireOf.calls k _ _ l2 a3 t414 _ ?side1 ?side2 A9.out).mono ?_); (case side1 => exact r12_ HR2.out HB.out); (case side2 => exact HC2.out); rintro e w21 ⟨rfl, hb⟩; refine ⟨_, rfl, ?_⟩; have n0_ := Aside0.mk (below_step (bl_ HB.out) hb); clear HB; have HB := n0_; clear n0_; (try clear hb); (try clear hb2); (try clear hk); (try clear hi)))
    have n0_ := Aside0.mk (below_drew1 HB.out)
    clear HB
    have HB := n0_
    clear n0_
    have q23 : (t414 : Int) ≤ ((l2.length : Int) : Int) := od_
    obtain ⟨i023, hi023, _, hsz23, _⟩ := info_parts info103
    have hroom23 : l2.length ≤ c2 := HC2.out
    have hC23 : Kd.C k103 _ A2 l2.length l2 := HR2.out
    have hcut23 := cut_to (P := Try.prog) 26 103 .i64 Try.underlying26 hi023 A2 l2.length c2 t414 od_ q23 hroom23
    have hr23 := Kd.C_take (m := (t414 : Int).toNat) hC23 (by omega)
    have hy23 : y418.length = (t414 : Int).toNat := (by rw [Ny418.out, List.length_take]; omega)
    rw [← Ny418.out] at hr23
    rw [← hy23] at hcut23
    have HR421 := Aside0.mk hr23
    have HC421 := Aside0.mk (show y418.length ≤ c2 from by omega)
    clear hr23 hC23 hroom23 hi023 hsz23
    have KY23 := Aside0.mk hy23
    clear hy23
    replace q23 := eq_true q23
    have q24 : ((ji16) : Int) ≤ ((l2.length : Int) : Int) := od_
    obtain ⟨i024, hi024, _, hsz24, _⟩ := info_parts info103
    have hroom24 : l2.length ≤ c2 := HC2.out
    have hC24 : Kd.C k103 _ A2 l2.length l2 := HR2.out
    have q024 : (0 : Int) ≤ ((ji16) : Int) := od_
    have hcut24 := cut_from (P := Try.prog) 26 103 .i64 Try.underlying26 hi024 3 hsz24 A2 l2.length c2 (ji16) q024 q24
    have hr24 := Kd.C_drop (m := ((ji16) : Int).toNat) (c := c2) hC24 (by omega) hroom24
    obtain ⟨A24, hA24⟩ : ∃ A1, A1 = (if c2 = ((ji16) : Int).toNat then A2 else (A2 : Option Addr).map (·.add (((ji16) : Int).toNat * 3))) := ⟨_, rfl⟩
    obtain ⟨c24, hc24⟩ : ∃ c1, c1 = c2 - ((ji16) : Int).toNat := ⟨_, rfl⟩
    have hy24 : y425.length = l2.length - ((ji16) : Int).toNat := (by rw [Ny425.out, List.length_drop] <;> omega)
    rw [show (l2).drop ((ji16) : Int).toNat = y425 from Ny425.out.symm] at hr24
    replace hr24 : Kd.C k103 _ A24 y425.length y425 := (by rw [hA24]; exact hr24)
    rw [← hy24, ← hA24, ← hc24] at hcut24
    have HR428 := Aside0.mk hr24
    have HC428 := Aside0.mk (show y425.length ≤ c24 from by rw [hy24, hc24]; exact Nat.sub_le_sub_right hroom24 _)
    clear hr24 hC24 hroom24 hi024 hsz24 hc24
    have KY24 := Aside0.mk hy24
    have KA24 := Aside0.mk hA24
    clear hy24 hA24
    replace q24 := eq_true q24
    refine start_ (n := 12) (S := fun w' => True) (ds := []) #[f_,f_,f_,f_,f_,f_,f_,f_,f_,f_,f_,f_] (by kernel_rfl) rfl rfl trivial (fun hHeld => ?_); refine with_tabW impl_CutWire.tab8 impl_CutWire.bits8 (fun HT_ HW_ => ?_)
    generalize w21.drew = w22 at HB HR421 HR428 hHeld ⊢
    refine pu_ 1 27 #[f_,t_,f_,f_,f_,f_,f_,f_,f_,f_,f_,f_] HT_.out ?_
    refine pu_ 2 28 #[f_,t_,t_,f_,f_,f_,f_,f_,f_,f_,f_,f_] HT_.out ?_
    refine pu_ 3 29 #[f_,t_,t_,t_,f_,f_,f_,f_,f_,f_,f_,f_] HT_.out ?_
    refine pu_ 5 31 #[f_,t_,t_,t_,f_,t_,f_,f_,f_,f_,f_,f_] HT_.out ?_
    refine pu_ 6 32 #[f_,t_,t_,t_,f_,t_,t_,f_,f_,f_,f_,f_] HT_.out ?_
    refine pu_ 7 33 #[f_,t_,t_,t_,f_,t_,t_,t_,f_,f_,f_,f_] HT_.out ?_
    refine pu_ 8 34 #[f_,t_,t_,t_,f_,t_,t_,t_,t_,f_,f_,f_] HT_.out ?_
    refine one_ (i := 0) (N := some 26) #[t_,t_,t_,t_,f_,t_,t_,t_,t_,f_,f_,f_] rfl rfl (one_of HT_.out (by kernel_rfl)) (by decide) (fun K hK => ?_)
    refine Kd.R_lit_step k103 _ 103 ?hg (N := 26) ?hd (xs := ([] : List (S103))) (inner := []) (ok := fun _ => True) (okp := fun _ => True) ?hr ?hp (fun _ hk => hk) trivial (Below.refl _ _) (Nat.le_refl _) (by simp) ?_; (case hd => rfl); (case hg => rfl); (case hr => first | (go_simp; done) | (go_simp; rfl)); (case hp => exact (Reps.none _ _))
    intro v416 w25 ho26 hb hg_ hnew_
    clear hg_ hnew_
    (first | rw [← Ny415.out] at ho26 | (simp only [Int.reduceToNat] at ho26; rw [← Ny415.out] at ho26))
    have n0_ := Aside0.mk (Kd.R_lower ho26 (below_size (bl_ HB.out)))
    have n1_ := Aside0.mk (below_step (bl_ HB.out) hb)
    clear HB
    have HO417 := n0_
    have HB := n1_
    clear n0_ n1_
    clear hb ho26
    refine hK.out _ _ trivial (fun hHeld => ?_)
    clear hK K
    refine norm_ (a' := ?_) ?_ ?_
    rotate_left
    ·show Act.put _ (some 26) _ = _
     simp only [pz_]
     rfl
    refine one_ (i := 4) (N := some 30) #[t_,t_,t_,t_,t_,t_,t_,t_,t_,f_,f_,f_] rfl rfl (one_of HT_.out (by kernel_rfl)) (by decide) (fun K hK => ?_)
    refine Kd.R_append_rows_step k103 (w0 := w) w.heap.size (by rfl) (.tmp 26) (.tmp 29) 26 103 (.agg #[(.int .i64 0), (.int .i64 0), (.int .i64 0)]) 24 rfl Try.underlying26 info103 rfl (by decide) (by omega) v416 y415 y418 _ _ _ (fun _ => True) (fun _ => False) rfl rfl ?aO ?aR (fun _ _ h => h) (fun _ h => h.elim) ?aF ?aB ?aS ?aL ?_
    (case aR => exact r9_ HR421.out HB.out)
    (case aB => exact (bl_ HB.out))
    (case aF => exact (fun _ _ => trivial))
    (case aO => exact (rk_ HO417.out))
    (case aS => exact (below_size (bl_ HB.out)))
    (case aL => have := LMc15.out; omega)
    intro v423 w27 ho hb hg hat
    rw [← Ny422.out] at ho
    have n0_ := Aside0.mk (hb)
    have n1_ := Aside0.mk (ho)
    clear HB
    clear HO417
    have HB := n0_
    have HO424 := n1_
    clear n0_ n1_
    clear ho hb hg hat
    refine hK.out _ _ trivial (fun hHeld => ?_)
    clear hK K
    refine norm_ (a' := ?_) ?_ ?_
    rotate_left
    ·show Act.put _ (some 30) _ = _
     simp only [pz_]
     rfl
    refine one_ (i := 9) (N := some 35) #[t_,t_,t_,t_,t_,t_,t_,t_,t_,t_,f_,f_] rfl rfl (one_of HT_.out (by kernel_rfl)) (by decide) (fun K hK => ?_)
    refine Kd.R_append_rows_step k103 (w0 := w) w.heap.size (by rfl) (.tmp 30) (.tmp 34) 26 103 (.agg #[(.int .i64 0), (.int .i64 0), (.int .i64 0)]) 24 rfl Try.underlying26 info103 rfl (by decide) (by omega) v423 y422 y425 _ _ _ (fun _ => True) (fun _ => False) rfl rfl ?aO ?aR (fun _ _ h => h) (fun _ h => h.elim) ?aF ?aB ?aS ?aL ?_
    (case aR => exact r9_ HR428.out HB.out)
    (case aB => exact (bl_ HB.out))
    (case aF => exact (fun _ _ => trivial))
    (case aO => exact (rk_ HO424.out))
    (case aS => exact (below_size (bl_ HB.out)))
    (case aL => have := LMc19.out; omega)
    intro v430 w28 ho hb hg hat
    rw [← Ny429.out] at ho
    have n0_ := Aside0.mk (hb)
    have n1_ := Aside0.mk (ho)
    clear HB
    clear HO424
    have HB := n0_
    have HO431 := n1_
    clear n0_ n1_
    clear ho hb hg hat
    refine hK.out _ _ trivial (fun hHeld => ?_)
    clear hK K
    refine norm_ (a' := ?_) ?_ ?_
    rotate_left
    ·show Act.put _ (some 35) _ = _
     simp only [pz_]
     rfl
    refine pu_ 10 8 #[t_,t_,t_,t_,t_,t_,t_,t_,t_,t_,t_,f_] HT_.out ?_
    refine pu_ 11 9 #[t_,t_,t_,t_,t_,t_,t_,t_,t_,t_,t_,t_] HT_.out ?_
    refine done_ (done_of HT_.out (by kernel_rfl)) ?_
    try go_wp2
    go_ret2
    exact ⟨_, by first | rfl | (simp [errW_none, errW_some] <;> rfl) | (simp only [← hji16]; first | rfl | (simp [errW_none, errW_some] <;> rfl)) | (simp [*, errW_none, errW_some] <;> rfl), rk_ HO431.out, bl_ HB.out⟩
  ·replace c8 := Bool.eq_false_iff.mpr c8
   subst c8
   have H1 : (some (([] : List (S103)), 2)) = some (r1, r2) := by rw [if_neg (show ¬ (false = true) by decide)] at H; exact H
   clear H
   have H := H1
   clear H1
   simp only [Option.some.injEq, Prod.mk.injEq] at H
   obtain ⟨rfl, rfl⟩ := H
   go_enter Try.func60, Try.ntmps60
   go_wp2_with (first | ((with_reducible refine gate_callee (f := 68) rfl ?_); refine goesL_ (some 14) rfl rfl Try.func68 (by kernel_rfl) rfl #[.slice A0 l0.length c0, .int .i64 a1, .slice A2 l2.length c2] rfl ag_ ?_; (with_reducible refine (impl_AreWires.calls k _ _ l0 a1 _ _ l2 true _ ?side1 ?side2 ?side3 ?side4 A5.out).mono ?_); (case side1 => exact r6_ HR0.out); (case side2 => exact HC0.out); (case side3 => exact r6_ HR2.out); (case side4 => exact HC2.out); rintro e w29 ⟨rfl, hb⟩; refine ⟨_, rfl, ?_⟩; have n0_ := Aside0.mk (below_step (bl_ HB.out) hb); clear HB; have HB := n0_; clear n0_; (try clear hb); (try clear hb2); (try clear hk); (try clear hi)) | ((with_reducible refine gate_callee (f := 78) rfl ?_); refine goesL_ (some 19) rfl rfl Try.func78 (by kernel_rfl) rfl #[.int .i64 a3, .int .i64 0, .int .i64 (wrap64 (a1 - 1))] rfl ag_ ?_; (with_reducible refine (impl_within.calls a3 0 (wrap64 (a1 - 1)) false _ A7.out).mono ?_); rintro e w' ⟨rfl, ⟨nd, rfl⟩⟩; refine ⟨_, rfl, ?_⟩))
   go_ret2
   exact ⟨_, by first | rfl | (simp [errW_none, errW_some] <;> rfl) | (simp [*, errW_none, errW_some] <;> rfl), by first | exact Kd.R_nil _ _ _ _ _ | exact Kd.N_nil _ _ _ _ _ | exact Kd.V_nil _ _ _ _ _ | exact Kd.Q_nil _ _ _ _ _ | exact Kd.S_nil _ _ _ _ _, bl_ HB.out⟩
 ·replace c6 := Bool.eq_false_iff.mpr c6
  subst c6
  have H1 : (some (([] : List (S103)), 1)) = some (r1, r2) := by rw [if_neg (show ¬ (false = true) by decide)] at H; exact H
  clear H
  have H := H1
  clear H1
  simp only [Option.some.injEq, Prod.mk.injEq] at H
  obtain ⟨rfl, rfl⟩ := H
  go_enter Try.func60, Try.ntmps60
  go_wp2_with (first | ((with_reducible refine gate_callee (f := 68) rfl ?_); refine goesL_ (some 14) rfl rfl Try.func68 (by kernel_rfl) rfl #[.slice A0 l0.length c0, .int .i64 a1, .slice A2 l2.length c2] rfl ag_ ?_; (with_reducible refine (impl_AreWires.calls k _ _ l0 a1 _ _ l2 false _ ?side1 ?side2 ?side3 ?side4 A5.out).mono ?_); (case side1 => exact r6_ HR0.out); (case side2 => exact HC0.out); (case side3 => exact r6_ HR2.out); (case side4 => exact HC2.out); rintro e w30 ⟨rfl, hb⟩; refine ⟨_, rfl, ?_⟩; have n0_ := Aside0.mk (below_step (bl_ HB.out) hb); clear HB; have HB := n0_; clear n0_; (try clear hb); (try clear hb2); (try clear hk); (try clear hi)))
  go_ret2
  exact ⟨_, by first | rfl | (simp [errW_none, errW_some] <;> rfl) | (simp [*, errW_none, errW_some] <;> rfl), by first | exact Kd.R_nil _ _ _ _ _ | exact Kd.N_nil _ _ _ _ _ | exact Kd.V_nil _ _ _ _ _ | exact Kd.Q_nil _ _ _ _ _ | exact Kd.S_nil _ _ _ _ _, bl_ HB.out⟩
def spec_CutWire.j0 : Nat → List (S103) → Int → Int → Bool → Option ((List (S103)) × Int)
 | 0, _, _, _, _ => none
 | k + 1, x2, x10, x11, x25 => if x25 = true then (if 4 = 0 then ((some (([] : List (S103)) : List (S103))).bind fun y434 => (if 0 ≤ x11 then (if x11 ≤ (x2.length : Int) then ((some (x2.take (x11 : Int).toNat : List (S103))).bind fun y437 => (if y434.length + y437.length < 5864062014805 then ((some (y434 ++ y437 : List (S103))).bind fun y441 => (if 0 ≤ (wrap64 (x11 + 1)) then (if (wrap64 (x11 + 1)) ≤ (x2.length : Int) then ((some (x2.drop ((wrap64 (x11 + 1)) : Int).toNat : List (S103))).bind fun y444 => (if y441.length + y444.length < 5864062014805 then (some ((y441 ++ y444), 0)) else (none))) else (none)) else (none))) else (none))) else (none)) else (none))) else (some (([] : List (S103)), 4))) else (if x10 = 0 then ((some (([] : List (S103)) : List (S103))).bind fun y451 => (if 0 ≤ x11 then (if x11 ≤ (x2.length : Int) then ((some (x2.take (x11 : Int).toNat : List (S103))).bind fun y454 => (if y451.length + y454.length < 5864062014805 then ((some (y451 ++ y454 : List (S103))).bind fun y458 => (if 0 ≤ (wrap64 (x11 + 1)) then (if (wrap64 (x11 + 1)) ≤ (x2.length : Int) then ((some (x2.drop ((wrap64 (x11 + 1)) : Int).toNat : List (S103))).bind fun y461 => (if y458.length + y461.length < 5864062014805 then (some ((y458 ++ y461), 0)) else (none))) else (none)) else (none))) else (none))) else (none)) else (none))) else (some (([] : List (S103)), x10)))
def spec_CutWire.f (k : Nat) (l0 : List (S98)) (a1 : Int) (l2 : List (S103)) (a3 : Int) : Option ((List (S103)) × Int) := (spec_l13Cue.f k l0 a1 l2 a3).bind fun t432 => ((spec_l13Find.f k l2 a3).bind fun t433 => (if t432 = 0 then (spec_CutWire.j0 k l2 t432 t433 (decide (t433 < 0))) else (spec_CutWire.j0 k l2 t432 t433 false)))
theorem spec_CutWire.mono_l : ∀ k, (∀ y0 y1 y2 y3, LeO (spec_CutWire.j0 k y0 y1 y2 y3) (spec_CutWire.j0 (k + 1) y0 y1 y2 y3))
 | 0 => fun _ _ _ _ r h => by simp [spec_CutWire.j0] at h
 | k + 1 => by
  have ih0 := spec_CutWire.mono_l k
  ·intro y0 y1 y2 y3
   unfold spec_CutWire.j0
   repeat' first
   | (with_reducible exact ih0 _ _ _ _)
   | (with_reducible exact spec_l13Cue.mono _ _ _ _ _)
   | (with_reducible exact spec_l13Find.mono _ _ _)
   | (with_reducible exact LeO.refl _)
   | (with_reducible exact LeO.none _)
   | (with_reducible refine LeO.ite ?_ ?_)
   | (with_reducible refine LeO.bind ?_ (fun _ => ?_))
   | exact ih0 _ _ _ _
   | exact spec_l13Cue.mono _ _ _ _ _
   | exact spec_l13Find.mono _ _ _
   | exact LeO.none _
   | refine LeO.ite ?_ ?_
   | refine LeO.bind ?_ (fun _ => ?_)
theorem spec_CutWire.mono : ∀ a0 a1 a2 a3 k, LeO (spec_CutWire.f k a0 a1 a2 a3) (spec_CutWire.f (k + 1) a0 a1 a2 a3) := by
 intro a0 a1 a2 a3 k
 have ih0 := spec_CutWire.mono_l k
 unfold spec_CutWire.f
 repeat' first
   | (with_reducible exact ih0 _ _ _ _)
   | (with_reducible exact spec_l13Cue.mono _ _ _ _ _)
   | (with_reducible exact spec_l13Find.mono _ _ _)
   | (with_reducible exact LeO.refl _)
   | (with_reducible exact LeO.none _)
   | (with_reducible refine LeO.ite ?_ ?_)
   | (with_reducible refine LeO.bind ?_ (fun _ => ?_))
   | exact ih0 _ _ _ _
   | exact spec_l13Cue.mono _ _ _ _ _
   | exact spec_l13Find.mono _ _ _
   | exact LeO.none _
   | refine LeO.ite ?_ ?_
   | refine LeO.bind ?_ (fun _ => ?_)
def spec_CutWire.T7 : Bool × List (List Nat × List Nat) := (true, [([], []), ([], []), ([], []), ([1, 2], [1, 2]), ([0, 3], [0, 3]), ([], []), ([], []), ([6], [6]), ([5, 7], [5, 7]), ([4, 8, 4], [4, 8]), ([9, 9, 0, 1, 2, 3, 4, 5, 6, 7, 8, 9], [9]), ([10, 0, 1, 2, 3, 4, 5, 6, 7, 8, 9, 10], [])])
def spec_CutWire.B7 : List Nat := [0, 0, 0, 6, 15, 0, 0, 64, 224, 511, 1023, 2047]
theorem spec_CutWire.tab7 : rtab .any (opsOf Try.f61 7) = spec_CutWire.T7 := by kernel_rfl
theorem spec_CutWire.bits7 : waitsOk spec_CutWire.T7.2 spec_CutWire.B7 = true := by kernel_rfl
set_option maxHeartbeats 8000000 in
set_option maxRecDepth 100000 in
theorem spec_CutWire.calls (k : Nat) (A0 : Option Addr) (c0 : Nat) (l0 : List (S98)) (a1 : Int) (A2 : Option Addr) (c2 : Nat) (l2 : List (S103)) (a3 : Int) (r1 : List (S103)) (r2 : Int) (w : World) (hr0 : Kd.C k98 w A0 l0.length l0) (hc0 : l0.length ≤ c0) (hr2 : Kd.C k103 w A2 l2.length l2) (hc2 : l2.length ≤ c2) (h : spec_CutWire.f k l0 a1 l2 a3 = some (r1, r2)) :
  Calls Try.prog 61 #[.slice A0 l0.length c0, .int .i64 a1, .slice A2 l2.length c2, .int .i64 a3] w fun e w' => ∃ v0_ : Value, e = .returned (.tuple #[v0_, .int .i64 r2]) ∧ Kd.R k103 103 w' w.heap.size (fun _ => True) v0_ r1 ∧ Below w.heap.size w w' := by
 have HR0 := Aside0.mk hr0
 have HC0 := Aside0.mk hc0
 clear hr0 hc0
 have HR2 := Aside0.mk hr2
 have HC2 := Aside0.mk hc2
 clear hr2 hc2
 have HB := Aside0.mk (Below.refl w.heap.size w)
 have H : ((spec_l13Cue.f k l0 a1 l2 a3).bind fun t432 => ((spec_l13Find.f k l2 a3).bind fun t433 => (if t432 = 0 then (spec_CutWire.j0 k l2 t432 t433 (decide (t433 < 0))) else (spec_CutWire.j0 k l2 t432 t433 false)))) = some (r1, r2) := h
 clear h
 replace H := Option.bind_eq_some_iff.mp H
 obtain ⟨t432, A50, H⟩ := H
 replace H : ((spec_l13Find.f k l2 a3).bind fun t433 => (if t432 = 0 then (spec_CutWire.j0 k l2 t432 t433 (decide (t433 < 0))) else (spec_CutWire.j0 k l2 t432 t433 false))) = some (r1, r2) := H
 have A5 := Aside0.mk A50
 clear A50
 replace H := Option.bind_eq_some_iff.mp H
 obtain ⟨t433, A60, H⟩ := H
 replace H : (if t432 = 0 then (spec_CutWire.j0 k l2 t432 t433 (decide (t433 < 0))) else (spec_CutWire.j0 k l2 t432 t433 false)) = some (r1, r2) := H
 have A6 := Aside0.mk A60
 clear A60
 have HC7 := Aside0.mk H
 clear H
 go_enter Try.func61, Try.ntmps61
 go_upto_region 3 with (first | ((with_reducible refine gate_callee (f := 70) rfl ?_); refine goesL_ (some 16) rfl rfl Try.func70 (by kernel_rfl) rfl #[.slice A0 l0.length c0, .int .i64 a1, .slice A2 l2.length c2, .int .i64 a3] rfl ag_ ?_; (with_reducible refine (spec_l13Cue.calls k _ _ l0 a1 _ _ l2 a3 t432 _ ?side1 ?side2 ?side3 ?side4 A5.out).mono ?_); (case side1 => exact r6_ HR0.out); (case side2 => exact HC0.out); (case side3 => exact r6_ HR2.out); (case side4 => exact HC2.out); rintro e w8 ⟨rfl, hb⟩; refine ⟨_, rfl, ?_⟩; have n0_ := Aside0.mk (below_step (bl_ HB.out) hb); clear HB; have HB := n0_; clear n0_; (try clear hb); (try clear hb2); (try clear hk); (try clear hi)) | ((with_reducible refine gate_callee (f := 71) rfl ?_); refine goesL_ (some 19) rfl rfl Try.func71 (by kernel_rfl) rfl #[.slice A2 l2.length c2, .int .i64 a3] rfl ag_ ?_; (with_reducible refine (spec_l13Find.calls k _ _ l2 a3 t433 _ ?side1 ?side2 A6.out).mono ?_); (case side1 => exact r9_ HR2.out HB.out); (case side2 => exact HC2.out); rintro e w' ⟨rfl, ⟨nd, rfl⟩⟩; refine ⟨_, rfl, ?_⟩))
 (try simp only [Act.put, List.setIfInBounds_toArray, List.set_cons_zero, List.set_cons_succ])
 go_cut [25] (fun v25 wc => ∃ (kq : Nat) (x25_6 : Bool), v25 = .bool x25_6 ∧ Aside0 (spec_CutWire.j0 kq l2 t432 t433 x25_6 = some (r1, r2)) ∧ Aside0 (kq ≤ k) ∧ Aside0 (Below w.heap.size w wc))
 case first =>
  have H := HC7.out
  clear HC7
  by_cases c9 : t432 = 0
  ·rw [if_pos c9] at H
   have c9b0 : (t432 == 0) = true := beq_iff_eq.mpr c9
   have c9b1 : (t432 != 0) = false := bne_eq_false_iff_eq.mpr c9
   clear c9
   (first | rw [c9b0] | (simp only [i64_w, i32_w]; rw [c9b0]) | skip)
   have H' := Aside0.mk H
   clear H
   go_wp2
   go_meet
   case rel => exact ⟨_, (decide (t433 < 0)), (by first | rfl | (simp; done) | (simp [*]; done)), H', ⟨by first | omega | exact Nat.le_refl _⟩, ⟨bl_ HB.out⟩⟩
  ·rw [if_neg c9] at H
   have c9b0 : (t432 == 0) = false := beq_eq_false_iff_ne.mpr c9
   have c9b1 : (t432 != 0) = true := bne_iff_ne.mpr c9
   (first | rw [c9b0] | (simp only [i64_w, i32_w]; rw [c9b0]) | skip)
   have H' := Aside0.mk H
   clear H
   go_wp2
   go_meet
   case rel => exact ⟨_, (false), (by first | rfl | (simp; done) | (simp [*]; done)), H', ⟨by first | omega | exact Nat.le_refl _⟩, ⟨bl_ HB.out⟩⟩
 case rest =>
  clear HC7
  try clear c2
  try clear p2
  try clear c6
  try clear c7
  try clear c9
  try clear c9b0
  try clear c9b1
  obtain ⟨kq, x25_6, rfl, HA, HJ6, HB⟩ := hcut
  cases kq with
  | zero => exact absurd HA.out (by simp [spec_CutWire.j0])
  | succ kj6 =>
   have H := HA.out
   clear HA
   simp only [spec_CutWire.j0] at H
   by_cases c10 : x25_6 = true
   ·subst c10
    have H1 : (if 4 = 0 then ((some (([] : List (S103)) : List (S103))).bind fun y434 => (if 0 ≤ t433 then (if t433 ≤ (l2.length : Int) then ((some (l2.take (t433 : Int).toNat : List (S103))).bind fun y437 => (if y434.length + y437.length < 5864062014805 then ((some (y434 ++ y437 : List (S103))).bind fun y441 => (if 0 ≤ (wrap64 (t433 + 1)) then (if (wrap64 (t433 + 1)) ≤ (l2.length : Int) then ((some (l2.drop ((wrap64 (t433 + 1)) : Int).toNat : List (S103))).bind fun y444 => (if y441.length + y444.length < 5864062014805 then (some ((y441 ++ y444), 0)) else (none))) else (none)) else (none))) else (none))) else (none)) else (none))) else (some (([] : List (S103)), 4))) = some (r1, r2) := by rw [if_pos rfl] at H; exact H
    clear H
    have H := H1
    clear H1
    by_cases c11 : 4 = 0
    case pos =>
     exact absurd c11 (by decide)
    rw [if_neg c11] at H
    have c11b0 : (4 == 0) = false := beq_eq_false_iff_ne.mpr c11
    have c11b1 : (4 != 0) = true := bne_iff_ne.mpr c11
    simp only [Option.some.injEq, Prod.mk.injEq] at H
    obtain ⟨rfl, rfl⟩ := H
    go_wp2
    go_ret2
    exact ⟨_, by first | rfl | (simp [errW_none, errW_some] <;> rfl) | (simp [*, errW_none, errW_some] <;> rfl), by first | exact Kd.R_nil _ _ _ _ _ | exact Kd.N_nil _ _ _ _ _ | exact Kd.V_nil _ _ _ _ _ | exact Kd.Q_nil _ _ _ _ _ | exact Kd.S_nil _ _ _ _ _, bl_ HB.out⟩
   ·replace c10 := Bool.eq_false_iff.mpr c10
    subst c10
    have H1 : (if t432 = 0 then ((some (([] : List (S103)) : List (S103))).bind fun y451 => (if 0 ≤ t433 then (if t433 ≤ (l2.length : Int) then ((some (l2.take (t433 : Int).toNat : List (S103))).bind fun y454 => (if y451.length + y454.length < 5864062014805 then ((some (y451 ++ y454 : List (S103))).bind fun y458 => (if 0 ≤ (wrap64 (t433 + 1)) then (if (wrap64 (t433 + 1)) ≤ (l2.length : Int) then ((some (l2.drop ((wrap64 (t433 + 1)) : Int).toNat : List (S103))).bind fun y461 => (if y458.length + y461.length < 5864062014805 then (some ((y458 ++ y461), 0)) else (none))) else (none)) else (none))) else (none))) else (none)) else (none))) else (some (([] : List (S103)), t432))) = some (r1, r2) := by rw [if_neg (show ¬ (false = true) by decide)] at H; exact H
    clear H
    have H := H1
    clear H1
    by_cases c26 : t432 = 0
    ·rw [if_pos c26] at H
     have c26b0 : (t432 == 0) = true := beq_iff_eq.mpr c26
     have c26b1 : (t432 != 0) = false := bne_eq_false_iff_eq.mpr c26
     clear c26
     obtain ⟨y451, hy451⟩ : ∃ y_ : List (S103), y_ = (([] : List (S103))) := ⟨_, rfl⟩
     replace H : (if 0 ≤ t433 then (if t433 ≤ (l2.length : Int) then ((some (l2.take (t433 : Int).toNat : List (S103))).bind fun y454 => (if y451.length + y454.length < 5864062014805 then ((some (y451 ++ y454 : List (S103))).bind fun y458 => (if 0 ≤ (wrap64 (t433 + 1)) then (if (wrap64 (t433 + 1)) ≤ (l2.length : Int) then ((some (l2.drop ((wrap64 (t433 + 1)) : Int).toNat : List (S103))).bind fun y461 => (if y458.length + y461.length < 5864062014805 then (some ((y458 ++ y461), 0)) else (none))) else (none)) else (none))) else (none))) else (none)) else (none)) = some (r1, r2) := by first | (rw [hy451]; with_reducible exact H) | (have H2_ := (Option.bind_some _ _).symm.trans H; rw [hy451]; with_reducible exact H2_) | (have H2_ := (Option.bind_some _ _).symm.trans H; with_reducible exact H2_) | with_reducible exact H | (rw [hy451]; exact H) | exact H
     have Ny451 := Aside0.mk hy451
     clear hy451
     by_cases c27 : 0 ≤ t433
     case neg =>
      rw [if_neg c27] at H
      exact absurd H (by simp)
     rw [if_pos c27] at H
     have c27b0 := eq_true c27
     have c27b1 : decide (0 ≤ t433) = true := decide_eq_true c27
     clear c27
     by_cases c28 : t433 ≤ (l2.length : Int)
     case neg =>
      rw [if_neg c28] at H
      exact absurd H (by simp)
     rw [if_pos c28] at H
     have c28b0 := eq_true c28
     have c28b1 : decide (t433 ≤ (l2.length : Int)) = true := decide_eq_true c28
     clear c28
     obtain ⟨y454, hy454⟩ : ∃ y_ : List (S103), y_ = (l2.take (t433 : Int).toNat) := ⟨_, rfl⟩
     replace H : (if y451.length + y454.length < 5864062014805 then ((some (y451 ++ y454 : List (S103))).bind fun y458 => (if 0 ≤ (wrap64 (t433 + 1)) then (if (wrap64 (t433 + 1)) ≤ (l2.length : Int) then ((some (l2.drop ((wrap64 (t433 + 1)) : Int).toNat : List (S103))).bind fun y461 => (if y458.length + y461.length < 5864062014805 then (some ((y458 ++ y461), 0)) else (none))) else (none)) else (none))) else (none)) = some (r1, r2) := by first | (rw [hy454]; with_reducible exact H) | (have H2_ := (Option.bind_some _ _).symm.trans H; rw [hy454]; with_reducible exact H2_) | (have H2_ := (Option.bind_some _ _).symm.trans H; with_reducible exact H2_) | with_reducible exact H | (rw [hy454]; exact H) | exact H
     have Ny454 := Aside0.mk hy454
     clear hy454
     by_cases c29 : y451.length + y454.length < 5864062014805
     case neg =>
      rw [if_neg c29] at H
      exact absurd H (by simp)
     rw [if_pos c29] at H
     have LMc29 := Aside0.mk c29
     clear c29
     obtain ⟨y458, hy458⟩ : ∃ y_ : List (S103), y_ = (y451 ++ y454) := ⟨_, rfl⟩
     replace H : (if 0 ≤ (wrap64 (t433 + 1)) then (if (wrap64 (t433 + 1)) ≤ (l2.length : Int) then ((some (l2.drop ((wrap64 (t433 + 1)) : Int).toNat : List (S103))).bind fun y461 => (if y458.length + y461.length < 5864062014805 then (some ((y458 ++ y461), 0)) else (none))) else (none)) else (none)) = some (r1, r2) := by first | (rw [hy458]; with_reducible exact H) | (have H2_ := (Option.bind_some _ _).symm.trans H; rw [hy458]; with_reducible exact H2_) | (have H2_ := (Option.bind_some _ _).symm.trans H; with_reducible exact H2_) | with_reducible exact H | (rw [hy458]; exact H) | exact H
     have Ny458 := Aside0.mk hy458
     clear hy458
     obtain ⟨ji30, hji30⟩ : ∃ j_ : Int, (wrap64 (t433 + 1)) = j_ := ⟨_, rfl⟩
     replace H : (if 0 ≤ (ji30) then (if (ji30) ≤ (l2.length : Int) then ((some (l2.drop ((ji30) : Int).toNat : List (S103))).bind fun y461 => (if y458.length + y461.length < 5864062014805 then (some ((y458 ++ y461), 0)) else (none))) else (none)) else (none)) = some (r1, r2) := by first | (rw [hji30] at H; exact H) | (simp only [hji30] at H ⊢; exact H)
     have hji30w : (IntKind.i64.wrap (t433 + 1)) = ji30 := (i64_w _).trans hji30
     by_cases c31 : 0 ≤ (ji30)
     case neg =>
      rw [if_neg c31] at H
      exact absurd H (by simp)
     rw [if_pos c31] at H
     have c31b0 := eq_true c31
     have c31b1 : decide (0 ≤ (ji30)) = true := decide_eq_true c31
     clear c31
     by_cases c32 : (ji30) ≤ (l2.length : Int)
     case neg =>
      rw [if_neg c32] at H
      exact absurd H (by simp)
     rw [if_pos c32] at H
     have c32b0 := eq_true c32
     have c32b1 : decide ((ji30) ≤ (l2.length : Int)) = true := decide_eq_true c32
     clear c32
     obtain ⟨y461, hy461⟩ : ∃ y_ : List (S103), y_ = (l2.drop ((ji30) : Int).toNat) := ⟨_, rfl⟩
     replace H : (if y458.length + y461.length < 5864062014805 then (some ((y458 ++ y461), 0)) else (none)) = some (r1, r2) := by first | (rw [hy461]; with_reducible exact H) | (have H2_ := (Option.bind_some _ _).symm.trans H; rw [hy461]; with_reducible exact H2_) | (have H2_ := (Option.bind_some _ _).symm.trans H; with_reducible exact H2_) | with_reducible exact H | (rw [hy461]; exact H) | exact H
     have Ny461 := Aside0.mk hy461
     clear hy461
     by_cases c33 : y458.length + y461.length < 5864062014805
     case neg =>
      rw [if_neg c33] at H
      exact absurd H (by simp)
     rw [if_pos c33] at H
     have LMc33 := Aside0.mk c33
     clear c33
     obtain ⟨y465, hy465⟩ : ∃ y_ : List (S103), y_ = (y458 ++ y461) := ⟨_, rfl⟩
     replace H : (some (y465, 0)) = some (r1, r2) := by first | (rw [hy465]; with_reducible exact H) | (have H2_ := (Option.bind_some _ _).symm.trans H; rw [hy465]; with_reducible exact H2_) | (have H2_ := (Option.bind_some _ _).symm.trans H; with_reducible exact H2_) | with_reducible exact H | (rw [hy465]; exact H) | exact H
     have Ny465 := Aside0.mk hy465
     clear hy465
     simp only [Option.some.injEq, Prod.mk.injEq] at H
     obtain ⟨rfl, rfl⟩ := H
     try go_wp2
     have n0_ := Aside0.mk (below_drew1 HB.out)
     clear HB
     have HB := n0_
     clear n0_
     have q35 : (t433 : Int) ≤ ((l2.length : Int) : Int) := od_
     obtain ⟨i035, hi035, _, hsz35, _⟩ := info_parts info103
     have hroom35 : l2.length ≤ c2 := HC2.out
     have hC35 : Kd.C k103 _ A2 l2.length l2 := HR2.out
     have hcut35 := cut_to (P := Try.prog) 26 103 .i64 Try.underlying26 hi035 A2 l2.length c2 t433 od_ q35 hroom35
     have hr35 := Kd.C_take (m := (t433 : Int).toNat) hC35 (by omega)
     have hy35 : y454.length = (t433 : Int).toNat := (by rw [Ny454.out, List.length_take]; omega)
     rw [← Ny454.out] at hr35
     rw [← hy35] at hcut35
     have HR457 := Aside0.mk hr35
     have HC457 := Aside0.mk (show y454.length ≤ c2 from by omega)
     clear hr35 hC35 hroom35 hi035 hsz35
     have KY35 := Aside0.mk hy35
     clear hy35
     replace q35 := eq_true q35
     have q36 : ((ji30) : Int) ≤ ((l2.length : Int) : Int) := od_
     obtain ⟨i036, hi036, _, hsz36, _⟩ := info_parts info103
     have hroom36 : l2.length ≤ c2 := HC2.out
     have hC36 : Kd.C k103 _ A2 l2.length l2 := HR2.out
     have q036 : (0 : Int) ≤ ((ji30) : Int) := od_
     have hcut36 := cut_from (P := Try.prog) 26 103 .i64 Try.underlying26 hi036 3 hsz36 A2 l2.length c2 (ji30) q036 q36
     have hr36 := Kd.C_drop (m := ((ji30) : Int).toNat) (c := c2) hC36 (by omega) hroom36
     obtain ⟨A36, hA36⟩ : ∃ A1, A1 = (if c2 = ((ji30) : Int).toNat then A2 else (A2 : Option Addr).map (·.add (((ji30) : Int).toNat * 3))) := ⟨_, rfl⟩
     obtain ⟨c36, hc36⟩ : ∃ c1, c1 = c2 - ((ji30) : Int).toNat := ⟨_, rfl⟩
     have hy36 : y461.length = l2.length - ((ji30) : Int).toNat := (by rw [Ny461.out, List.length_drop] <;> omega)
     rw [show (l2).drop ((ji30) : Int).toNat = y461 from Ny461.out.symm] at hr36
     replace hr36 : Kd.C k103 _ A36 y461.length y461 := (by rw [hA36]; exact hr36)
     rw [← hy36, ← hA36, ← hc36] at hcut36
     have HR464 := Aside0.mk hr36
     have HC464 := Aside0.mk (show y461.length ≤ c36 from by rw [hy36, hc36]; exact Nat.sub_le_sub_right hroom36 _)
     clear hr36 hC36 hroom36 hi036 hsz36 hc36
     have KY36 := Aside0.mk hy36
     have KA36 := Aside0.mk hA36
     clear hy36 hA36
     replace q36 := eq_true q36
     refine start_ (n := 12) (S := fun w' => True) (ds := []) #[f_,f_,f_,f_,f_,f_,f_,f_,f_,f_,f_,f_] (by kernel_rfl) rfl rfl trivial (fun hHeld => ?_); refine with_tabW spec_CutWire.tab7 spec_CutWire.bits7 (fun HT_ HW_ => ?_)
     generalize wc.drew = w34 at HB HR457 HR464 hHeld ⊢
     refine pu_ 1 30 #[f_,t_,f_,f_,f_,f_,f_,f_,f_,f_,f_,f_] HT_.out ?_
     refine pu_ 2 31 #[f_,t_,t_,f_,f_,f_,f_,f_,f_,f_,f_,f_] HT_.out ?_
     refine pu_ 3 32 #[f_,t_,t_,t_,f_,f_,f_,f_,f_,f_,f_,f_] HT_.out ?_
     refine pu_ 5 34 #[f_,t_,t_,t_,f_,t_,f_,f_,f_,f_,f_,f_] HT_.out ?_
     refine pu_ 6 35 #[f_,t_,t_,t_,f_,t_,t_,f_,f_,f_,f_,f_] HT_.out ?_
     refine pu_ 7 36 #[f_,t_,t_,t_,f_,t_,t_,t_,f_,f_,f_,f_] HT_.out ?_
     refine pu_ 8 37 #[f_,t_,t_,t_,f_,t_,t_,t_,t_,f_,f_,f_] HT_.out ?_
     refine one_ (i := 0) (N := some 29) #[t_,t_,t_,t_,f_,t_,t_,t_,t_,f_,f_,f_] rfl rfl (one_of HT_.out (by kernel_rfl)) (by decide) (fun K hK => ?_)
     refine Kd.R_lit_step k103 _ 103 ?hg (N := 29) ?hd (xs := ([] : List (S103))) (inner := []) (ok := fun _ => True) (okp := fun _ => True) ?hr ?hp (fun _ hk => hk) trivial (Below.refl _ _) (Nat.le_refl _) (by simp) ?_; (case hd => rfl); (case hg => rfl); (case hr => first | (go_simp; done) | (go_simp; rfl)); (case hp => exact (Reps.none _ _))
     intro v452 w37 ho38 hb hg_ hnew_
     clear hg_ hnew_
     (first | rw [← Ny451.out] at ho38 | (simp only [Int.reduceToNat] at ho38; rw [← Ny451.out] at ho38))
     have n0_ := Aside0.mk (Kd.R_lower ho38 (below_size (bl_ HB.out)))
     have n1_ := Aside0.mk (below_step (bl_ HB.out) hb)
     clear HB
     have HO453 := n0_
     have HB := n1_
     clear n0_ n1_
     clear hb ho38
     refine hK.out _ _ trivial (fun hHeld => ?_)
     clear hK K
     refine norm_ (a' := ?_) ?_ ?_
     rotate_left
     ·show Act.put _ (some 29) _ = _
      simp only [pz_]
      rfl
     refine one_ (i := 4) (N := some 33) #[t_,t_,t_,t_,t_,t_,t_,t_,t_,f_,f_,f_] rfl rfl (one_of HT_.out (by kernel_rfl)) (by decide) (fun K hK => ?_)
     refine Kd.R_append_rows_step k103 (w0 := w) w.heap.size (by rfl) (.tmp 29) (.tmp 32) 26 103 (.agg #[(.int .i64 0), (.int .i64 0), (.int .i64 0)]) 24 rfl Try.underlying26 info103 rfl (by decide) (by omega) v452 y451 y454 _ _ _ (fun _ => True) (fun _ => False) rfl rfl ?aO ?aR (fun _ _ h => h) (fun _ h => h.elim) ?aF ?aB ?aS ?aL ?_
     (case aR => exact r9_ HR457.out HB.out)
     (case aB => exact (bl_ HB.out))
     (case aF => exact (fun _ _ => trivial))
     (case aO => exact (rk_ HO453.out))
     (case aS => exact (below_size (bl_ HB.out)))
     (case aL => have := LMc29.out; omega)
     intro v459 w39 ho hb hg hat
     rw [← Ny458.out] at ho
     have n0_ := Aside0.mk (hb)
     have n1_ := Aside0.mk (ho)
     clear HB
     clear HO453
     have HB := n0_
     have HO460 := n1_
     clear n0_ n1_
     clear ho hb hg hat
     refine hK.out _ _ trivial (fun hHeld => ?_)
     clear hK K
     refine norm_ (a' := ?_) ?_ ?_
     rotate_left
     ·show Act.put _ (some 33) _ = _
      simp only [pz_]
      rfl
     refine one_ (i := 9) (N := some 38) #[t_,t_,t_,t_,t_,t_,t_,t_,t_,t_,f_,f_] rfl rfl (one_of HT_.out (by kernel_rfl)) (by decide) (fun K hK => ?_)
     refine Kd.R_append_rows_step k103 (w0 := w) w.heap.size (by rfl) (.tmp 33) (.tmp 37) 26 103 (.agg #[(.int .i64 0), (.int .i64 0), (.int .i64 0)]) 24 rfl Try.underlying26 info103 rfl (by decide) (by omega) v459 y458 y461 _ _ _ (fun _ => True) (fun _ => False) rfl rfl ?aO ?aR (fun _ _ h => h) (fun _ h => h.elim) ?aF ?aB ?aS ?aL ?_
     (case aR => exact r9_ HR464.out HB.out)
     (case aB => exact (bl_ HB.out))
     (case aF => exact (fun _ _ => trivial))
     (case aO => exact (rk_ HO460.out))
     (case aS => exact (below_size (bl_ HB.out)))
     (case aL => have := LMc33.out; omega)
     intro v466 w40 ho hb hg hat
     rw [← Ny465.out] at ho
     have n0_ := Aside0.mk (hb)
     have n1_ := Aside0.mk (ho)
     clear HB
     clear HO460
     have HB := n0_
     have HO467 := n1_
     clear n0_ n1_
     clear ho hb hg hat
     refine hK.out _ _ trivial (fun hHeld => ?_)
     clear hK K
     refine norm_ (a' := ?_) ?_ ?_
     rotate_left
     ·show Act.put _ (some 38) _ = _
      simp only [pz_]
      rfl
     refine pu_ 10 8 #[t_,t_,t_,t_,t_,t_,t_,t_,t_,t_,t_,f_] HT_.out ?_
     refine pu_ 11 9 #[t_,t_,t_,t_,t_,t_,t_,t_,t_,t_,t_,t_] HT_.out ?_
     refine done_ (done_of HT_.out (by kernel_rfl)) ?_
     try go_wp2
     go_ret2
     exact ⟨_, by first | rfl | (simp [errW_none, errW_some] <;> rfl) | (simp only [← hji30]; first | rfl | (simp [errW_none, errW_some] <;> rfl)) | (simp [*, errW_none, errW_some] <;> rfl), rk_ HO467.out, bl_ HB.out⟩
    ·rw [if_neg c26] at H
     have c26b0 : (t432 == 0) = false := beq_eq_false_iff_ne.mpr c26
     have c26b1 : (t432 != 0) = true := bne_iff_ne.mpr c26
     simp only [Option.some.injEq, Prod.mk.injEq] at H
     obtain ⟨rfl, rfl⟩ := H
     go_wp2
     go_ret2
     exact ⟨_, by first | rfl | (simp [errW_none, errW_some] <;> rfl) | (simp [*, errW_none, errW_some] <;> rfl), by first | exact Kd.R_nil _ _ _ _ _ | exact Kd.N_nil _ _ _ _ _ | exact Kd.V_nil _ _ _ _ _ | exact Kd.Q_nil _ _ _ _ _ | exact Kd.S_nil _ _ _ _ _, bl_ HB.out⟩
def impl_looseCues.l0 : Nat → Int → List (S103) → List Int → Int → Option (List Int)
 | 0, _, _, _, _ => none
 | k + 1, x0, x1, x5, x6 => if x6 < x0 then ((impl_wireOf.f k x1 x6).bind fun t468 => (if t468 < 0 then (if x5.length < 17592186044416 then (impl_looseCues.l0 k x0 x1 (x5 ++ [x6]) (wrap64 (x6 + 1))) else (none)) else (impl_looseCues.l0 k x0 x1 x5 (wrap64 (x6 + 1))))) else (some x5)
def impl_looseCues.f (k : Nat) (a0 : Int) (l1 : List (S103)) : Option (List Int) := impl_looseCues.l0 k a0 l1 ([] : List Int) 0
theorem impl_looseCues.mono_l : ∀ k, (∀ y0 y1 y2 y3, LeO (impl_looseCues.l0 k y0 y1 y2 y3) (impl_looseCues.l0 (k + 1) y0 y1 y2 y3))
 | 0 => fun _ _ _ _ r h => by simp [impl_looseCues.l0] at h
 | k + 1 => by
  have ih0 := impl_looseCues.mono_l k
  ·intro y0 y1 y2 y3
   unfold impl_looseCues.l0
   repeat' first
   | (with_reducible exact ih0 _ _ _ _)
   | (with_reducible exact impl_wireOf.mono _ _ _)
   | (with_reducible exact LeO.refl _)
   | (with_reducible exact LeO.none _)
   | (with_reducible refine LeO.ite ?_ ?_)
   | (with_reducible refine LeO.bind ?_ (fun _ => ?_))
   | exact ih0 _ _ _ _
   | exact impl_wireOf.mono _ _ _
   | exact LeO.none _
   | refine LeO.ite ?_ ?_
   | refine LeO.bind ?_ (fun _ => ?_)
theorem impl_looseCues.mono : ∀ a0 a1 k, LeO (impl_looseCues.f k a0 a1) (impl_looseCues.f (k + 1) a0 a1) := by
 intro a0 a1 k
 have ih0 := impl_looseCues.mono_l k
 unfold impl_looseCues.f
 repeat' first
   | (with_reducible exact ih0 _ _ _ _)
   | (with_reducible exact impl_wireOf.mono _ _ _)
   | (with_reducible exact LeO.refl _)
   | (with_reducible exact LeO.none _)
   | (with_reducible refine LeO.ite ?_ ?_)
   | (with_reducible refine LeO.bind ?_ (fun _ => ?_))
   | exact ih0 _ _ _ _
   | exact impl_wireOf.mono _ _ _
   | exact LeO.none _
   | refine LeO.ite ?_ ?_
   | refine LeO.bind ?_ (fun _ => ?_)
set_option maxHeartbeats 8000000 in
set_option maxRecDepth 100000 in
theorem impl_looseCues.calls (k : Nat) (a0 : Int) (A1 : Option Addr) (c1 : Nat) (l1 : List (S103)) (r : List Int) (w : World) (hr1 : Kd.C k103 w A1 l1.length l1) (hc1 : l1.length ≤ c1) (h : impl_looseCues.f k a0 l1 = some r) :
  Calls Try.prog 98 #[.int .i64 a0, .slice A1 l1.length c1] w fun e w' => ∃ v0_ : Value, e = .returned (v0_) ∧ Kd.R (Kd.int .i64) 2 w' w.heap.size (fun _ => True) v0_ r ∧ Below w.heap.size w w' := by
 have HR1 := Aside0.mk hr1
 have HC1 := Aside0.mk hc1
 clear hr1 hc1
 have HB := Aside0.mk (Below.refl w.heap.size w)
 have H : (impl_looseCues.l0 k a0 l1 ([] : List Int) 0) = some r := h
 clear h
 have H' := Aside0.mk H
 clear H
 go_enter Try.func98, Try.ntmps98
 go_wp2
 go_loopg [5, 6] k (fun kq v5 v6 w' => ∃ (x5_1 : List Int) (x6_1 : Int), v6 = .int .i64 x6_1 ∧ Aside0 (impl_looseCues.l0 kq a0 l1 x5_1 x6_1 = some r) ∧ Aside0 (kq ≤ k) ∧ Aside0 (Kd.R (Kd.int .i64) 2 w' w.heap.size (fun _ => True) v5 x5_1) ∧ Aside0 (Below w.heap.size w w'))
 case atStart => exact ⟨(([] : List Int)), (0), (by first | rfl | (simp; done) | (simp [*]; done)), H', ⟨Nat.le_refl _⟩, ⟨by first | exact Kd.R_nil _ _ _ _ _ | exact Kd.N_nil _ _ _ _ _ | exact Kd.V_nil _ _ _ _ _ | exact Kd.Q_nil _ _ _ _ _ | exact Kd.S_nil _ _ _ _ _⟩, ⟨bl_ HB.out⟩⟩
 case round =>
  clear H'
  try clear c1
  try clear p2
  obtain ⟨x5_1, x6_1, rfl, HA, HK1, HO_5, HB⟩ := hrel
  cases gk with
  | zero => exact absurd HA.out (by simp [impl_looseCues.l0])
  | succ k1 =>
   have H := HA.out
   clear HA
   simp only [impl_looseCues.l0] at H
   by_cases c3 : x6_1 < a0
   ·rw [if_pos c3] at H
    have c3b0 : decide (x6_1 < a0) = true := decide_eq_true c3
    clear c3
    replace H := Option.bind_eq_some_iff.mp H
    obtain ⟨t468, A40, H⟩ := H
    replace H : (if t468 < 0 then (if x5_1.length < 17592186044416 then (impl_looseCues.l0 k1 a0 l1 (x5_1 ++ [x6_1]) (wrap64 (x6_1 + 1))) else (none)) else (impl_looseCues.l0 k1 a0 l1 x5_1 (wrap64 (x6_1 + 1)))) = some r := H
    have A4 := Aside0.mk A40
    clear A40
    by_cases c5 : t468 < 0
    ·rw [if_pos c5] at H
     have c5b0 : decide (t468 < 0) = true := decide_eq_true c5
     clear c5
     by_cases c6 : x5_1.length < 17592186044416
     case neg =>
      rw [if_neg c6] at H
      exact absurd H (by simp)
     rw [if_pos c6] at H
     have LMc6 := Aside0.mk c6
     clear c6
     obtain ⟨y469, hy469⟩ : ∃ y_ : List Int, y_ = (x5_1 ++ [x6_1]) := ⟨_, rfl⟩
     replace H : (impl_looseCues.l0 k1 a0 l1 y469 (wrap64 (x6_1 + 1))) = some r := by first | (rw [hy469]; with_reducible exact H) | (have H2_ := (Option.bind_some _ _).symm.trans H; rw [hy469]; with_reducible exact H2_) | (have H2_ := (Option.bind_some _ _).symm.trans H; with_reducible exact H2_) | with_reducible exact H | (rw [hy469]; exact H) | exact H
     have Ny469 := Aside0.mk hy469
     clear hy469
     have H' := Aside0.mk H
     clear H
     go_wp2_with (first | ((with_reducible refine gate_callee (f := 79) rfl ?_); refine goesL_ (some 14) rfl rfl Try.func79 (by kernel_rfl) rfl #[.slice A1 l1.length c1, .int .i64 x6_1] rfl ag_ ?_; (with_reducible refine (impl_wireOf.calls k1 _ _ l1 x6_1 t468 _ ?side1 ?side2 A4.out).mono ?_); (case side1 => exact r9_ HR1.out HB.out); (case side2 => exact HC1.out); rintro e w7 ⟨rfl, hb⟩; refine ⟨_, rfl, ?_⟩; have n0_ := Aside0.mk (Kd.R_below (rk_ HO_5.out) hb); have n1_ := Aside0.mk (below_step (bl_ HB.out) hb); clear HO_5; clear HB; have HO_5 := n0_; have HB := n1_; clear n0_ n1_; (try clear hb); (try clear hb2); (try clear hk); (try clear hi)) | ((with_reducible refine gate_builtin (b := .append) (xs := #[.tmp 16, .tmp 18]) rfl ?_); at_builtin; refine Kd.R_append (Kd.int .i64) (w0 := w) w.heap.size rfl (.tmp 16) (.tmp 18) 41 2 (.int .i64 0) 8 rfl Try.underlying41 info2 rfl (by decide) (by omega) u5 x5_1 x6_1 [.int .i64 x6_1] (fun _ => True) (fun _ => False) rfl rfl ?aP (fun _ hk => hk.elim) ?aF ?aO ?aB ?aS ?aL ?_; (case aP => exact rfl); (case aB => exact (bl_ HB.out)); (case aF => exact (fun _ _ => trivial)); (case aO => exact (rk_ HO_5.out)); (case aS => exact (below_size (bl_ HB.out))); (case aL => have := LMc6.out; omega); intro v470 w8 ho hb hg hat; rw [← Ny469.out] at ho; have n0_ := Aside0.mk (hb); have n1_ := Aside0.mk (ho); clear HB; clear HO_5; have HB := n0_; have HO471 := n1_; clear n0_ n1_; clear ho hb hg hat))
     go_roundg k1
     case measure => have := HK1.out; omega
     case rel => exact ⟨(y469), (wrap64 (x6_1 + 1)), (by first | rfl | (simp; done) | (simp [*]; done)), H', ⟨by have := HK1.out; omega⟩, ⟨rk_ HO471.out⟩, ⟨bl_ HB.out⟩⟩
    ·rw [if_neg c5] at H
     have c5b0 : decide (t468 < 0) = false := decide_eq_false c5
     clear c5
     have H' := Aside0.mk H
     clear H
     go_wp2_with (first | ((with_reducible refine gate_callee (f := 79) rfl ?_); refine goesL_ (some 14) rfl rfl Try.func79 (by kernel_rfl) rfl #[.slice A1 l1.length c1, .int .i64 x6_1] rfl ag_ ?_; (with_reducible refine (impl_wireOf.calls k1 _ _ l1 x6_1 t468 _ ?side1 ?side2 A4.out).mono ?_); (case side1 => exact r9_ HR1.out HB.out); (case side2 => exact HC1.out); rintro e w9 ⟨rfl, hb⟩; refine ⟨_, rfl, ?_⟩; have n0_ := Aside0.mk (Kd.R_below (rk_ HO_5.out) hb); have n1_ := Aside0.mk (below_step (bl_ HB.out) hb); clear HO_5; clear HB; have HO_5 := n0_; have HB := n1_; clear n0_ n1_; (try clear hb); (try clear hb2); (try clear hk); (try clear hi)))
     go_roundg k1
     case measure => have := HK1.out; omega
     case rel => exact ⟨(x5_1), (wrap64 (x6_1 + 1)), (by first | rfl | (simp; done) | (simp [*]; done)), H', ⟨by have := HK1.out; omega⟩, ⟨rk_ HO_5.out⟩, ⟨bl_ HB.out⟩⟩
   ·rw [if_neg c3] at H
    have c3b0 : decide (x6_1 < a0) = false := decide_eq_false c3
    clear c3
    obtain rfl := Option.some.inj H
    go_wp2
    go_ret
    exact ⟨_, by first | rfl | (simp [errW_none, errW_some] <;> rfl) | (simp [*, errW_none, errW_some] <;> rfl), rk_ HO_5.out, bl_ HB.out⟩
def impl_LooseCues.f (k : Nat) (l0 : List (S98)) (a1 : Int) (l2 : List (S103)) : Option (List Int × Int) := (impl_AreWires.f k l0 a1 l2).bind fun t472 => (if t472 = true then ((impl_looseCues.f k a1 l2).bind fun t473 => (some (t473, 0))) else (some (([] : List Int), 1)))
theorem impl_LooseCues.mono : ∀ a0 a1 a2 k, LeO (impl_LooseCues.f k a0 a1 a2) (impl_LooseCues.f (k + 1) a0 a1 a2) := by
  intro a0 a1 a2 k
  unfold impl_LooseCues.f
  repeat' first
      | (with_reducible exact impl_AreWires.mono _ _ _ _)
      | (with_reducible exact impl_looseCues.mono _ _ _)
      | (with_reducible exact LeO.refl _)
      | (with_reducible exact LeO.none _)
      | (with_reducible refine LeO.ite ?_ ?_)
      | (with_reducible refine LeO.bind ?_ (fun _ => ?_))
      | exact impl_AreWires.mono _ _ _ _
      | exact impl_looseCues.mono _ _ _
      | exact LeO.none _
      | refine LeO.ite ?_ ?_
      | refine LeO.bind ?_ (fun _ => ?_)
set_option maxHeartbeats 8000000 in
set_option maxRecDepth 100000 in
theorem impl_LooseCues.calls (k : Nat) (A0 : Option Addr) (c0 : Nat) (l0 : List (S98)) (a1 : Int) (A2 : Option Addr) (c2 : Nat) (l2 : List (S103)) (r1 : List Int) (r2 : Int) (w : World) (hr0 : Kd.C k98 w A0 l0.length l0) (hc0 : l0.length ≤ c0) (hr2 : Kd.C k103 w A2 l2.length l2) (hc2 : l2.length ≤ c2) (h : impl_LooseCues.f k l0 a1 l2 = some (r1, r2)) :
    Calls Try.prog 62 #[.slice A0 l0.length c0, .int .i64 a1, .slice A2 l2.length c2] w fun e w' => ∃ v0_ : Value, e = .returned (.tuple #[v0_, .int .i64 r2]) ∧ Kd.R (Kd.int .i64) 2 w' w.heap.size (fun _ => True) v0_ r1 ∧ Below w.heap.size w w' := by
  have HR0 := Aside0.mk hr0
  have HC0 := Aside0.mk hc0
  clear hr0 hc0
  have HR2 := Aside0.mk hr2
  have HC2 := Aside0.mk hc2
  clear hr2 hc2
  have HB := Aside0.mk (Below.refl w.heap.size w)
  have H : ((impl_AreWires.f k l0 a1 l2).bind fun t472 => (if t472 = true then ((impl_looseCues.f k a1 l2).bind fun t473 => (some (t473, 0))) else (some (([] : List Int), 1)))) = some (r1, r2) := h
  clear h
  replace H := Option.bind_eq_some_iff.mp H
  obtain ⟨t472, A40, H⟩ := H
  replace H : (if t472 = true then ((impl_looseCues.f k a1 l2).bind fun t473 => (some (t473, 0))) else (some (([] : List Int), 1))) = some (r1, r2) := H
  have A4 := Aside0.mk A40
  clear A40
  by_cases c5 : t472 = true
  · subst c5
    have H1 : ((impl_looseCues.f k a1 l2).bind fun t473 => (some (t473, 0))) = some (r1, r2) := by rw [if_pos rfl] at H; exact H
    clear H
    have H := H1
    clear H1
    replace H := Option.bind_eq_some_iff.mp H
    obtain ⟨t473, A60, H⟩ := H
    replace H : (some (t473, 0)) = some (r1, r2) := H
    have A6 := Aside0.mk A60
    clear A60
    simp only [Option.some.injEq, Prod.mk.injEq] at H
    obtain ⟨rfl, rfl⟩ := H
    go_enter Try.func62, Try.ntmps62
    go_wp2_with (first | ((with_reducible refine gate_callee (f := 68) rfl ?_); refine goesL_ (some 11) rfl rfl Try.func68 (by kernel_rfl) rfl #[.slice A0 l0.length c0, .int .i64 a1, .slice A2 l2.length c2] rfl ag_ ?_; (with_reducible refine (impl_AreWires.calls k _ _ l0 a1 _ _ l2 true _ ?side1 ?side2 ?side3 ?side4 A4.out).mono ?_); (case side1 => exact r6_ HR0.out); (case side2 => exact HC0.out); (case side3 => exact r6_ HR2.out); (case side4 => exact HC2.out); rintro e w7 ⟨rfl, hb⟩; refine ⟨_, rfl, ?_⟩; have n0_ := Aside0.mk (below_step (bl_ HB.out) hb); clear HB; have HB := n0_; clear n0_; (try clear hb); (try clear hb2); (try clear hk); (try clear hi)) | ((with_reducible refine gate_callee (f := 98) rfl ?_); refine goesL_ (some 15) rfl rfl Try.func98 (by kernel_rfl) rfl #[.int .i64 a1, .slice A2 l2.length c2] rfl ag_ ?_; (with_reducible refine (impl_looseCues.calls k a1 _ _ l2 t473 _ ?side1 ?side2 A6.out).mono ?_); (case side1 => exact r9_ HR2.out HB.out); (case side2 => exact HC2.out); rintro e w8 ⟨v474, rfl, ho0, hb⟩; refine ⟨_, rfl, ?_⟩; have n0_ := Aside0.mk (Kd.R_lower ho0 (below_size (bl_ HB.out))); have n1_ := Aside0.mk (below_step (bl_ HB.out) hb); clear HB; have HO475 := n0_; have HB := n1_; clear n0_ n1_; (try clear hb); (try clear hb2); (try clear hk); (try clear hi); (try clear ho0)))
    go_ret2
    exact ⟨_, by first | rfl | (simp [errW_none, errW_some] <;> rfl) | (simp [*, errW_none, errW_some] <;> rfl), rk_ HO475.out, bl_ HB.out⟩
  · replace c5 := Bool.eq_false_iff.mpr c5
    subst c5
    have H1 : (some (([] : List Int), 1)) = some (r1, r2) := by rw [if_neg (show ¬ (false = true) by decide)] at H; exact H
    clear H
    have H := H1
    clear H1
    simp only [Option.some.injEq, Prod.mk.injEq] at H
    obtain ⟨rfl, rfl⟩ := H
    go_enter Try.func62, Try.ntmps62
    go_wp2_with (first | ((with_reducible refine gate_callee (f := 68) rfl ?_); refine goesL_ (some 11) rfl rfl Try.func68 (by kernel_rfl) rfl #[.slice A0 l0.length c0, .int .i64 a1, .slice A2 l2.length c2] rfl ag_ ?_; (with_reducible refine (impl_AreWires.calls k _ _ l0 a1 _ _ l2 false _ ?side1 ?side2 ?side3 ?side4 A4.out).mono ?_); (case side1 => exact r6_ HR0.out); (case side2 => exact HC0.out); (case side3 => exact r6_ HR2.out); (case side4 => exact HC2.out); rintro e w9 ⟨rfl, hb⟩; refine ⟨_, rfl, ?_⟩; have n0_ := Aside0.mk (below_step (bl_ HB.out) hb); clear HB; have HB := n0_; clear n0_; (try clear hb); (try clear hb2); (try clear hk); (try clear hi)))
    go_ret2
    exact ⟨_, by first | rfl | (simp [errW_none, errW_some] <;> rfl) | (simp [*, errW_none, errW_some] <;> rfl), by first | exact Kd.R_nil _ _ _ _ _ | exact Kd.N_nil _ _ _ _ _ | exact Kd.V_nil _ _ _ _ _ | exact Kd.Q_nil _ _ _ _ _ | exact Kd.S_nil _ _ _ _ _, bl_ HB.out⟩
section
attribute [local go_sem high] eqA103
def spec_l13Loose.l0 : Nat → Int → List (S103) → List Int → Int → Option (List Int)
 | 0, _, _, _, _ => none
 | k + 1, x0, x1, x5, x6 => if x6 < x0 then ((spec_l13Find.f k x1 x6).bind fun t479 => (if t479 < 0 then (if x5.length < 17592186044416 then (spec_l13Loose.l0 k x0 x1 (x5 ++ [x6]) (wrap64 (x6 + 1))) else (none)) else (spec_l13Loose.l0 k x0 x1 x5 (wrap64 (x6 + 1))))) else (some x5)
def spec_l13Loose.f (k : Nat) (a0 : Int) (l1 : List (S103)) : Option (List Int) := spec_l13Loose.l0 k a0 l1 (([] : List Int)) 0
theorem spec_l13Loose.mono_l : ∀ k, (∀ y0 y1 y2 y3, LeO (spec_l13Loose.l0 k y0 y1 y2 y3) (spec_l13Loose.l0 (k + 1) y0 y1 y2 y3))
 | 0 => fun _ _ _ _ r h => by simp [spec_l13Loose.l0] at h
 | k + 1 => by
  have ih0 := spec_l13Loose.mono_l k
  ·intro y0 y1 y2 y3
   unfold spec_l13Loose.l0
   repeat' first
   | (with_reducible exact ih0 _ _ _ _)
   | (with_reducible exact spec_l13Find.mono _ _ _)
   | (with_reducible exact LeO.refl _)
   | (with_reducible exact LeO.none _)
   | (with_reducible refine LeO.ite ?_ ?_)
   | (with_reducible refine LeO.bind ?_ (fun _ => ?_))
   | exact ih0 _ _ _ _
   | exact spec_l13Find.mono _ _ _
   | exact LeO.none _
   | refine LeO.ite ?_ ?_
   | refine LeO.bind ?_ (fun _ => ?_)
theorem spec_l13Loose.mono : ∀ a0 a1 k, LeO (spec_l13Loose.f k a0 a1) (spec_l13Loose.f (k + 1) a0 a1) := by
 intro a0 a1 k
 have ih0 := spec_l13Loose.mono_l k
 unfold spec_l13Loose.f
 repeat' first
   | (with_reducible exact ih0 _ _ _ _)
   | (with_reducible exact spec_l13Find.mono _ _ _)
   | (with_reducible exact LeO.refl _)
   | (with_reducible exact LeO.none _)
   | (with_reducible refine LeO.ite ?_ ?_)
   | (with_reducible refine LeO.bind ?_ (fun _ => ?_))
   | exact ih0 _ _ _ _
   | exact spec_l13Find.mono _ _ _
   | exact LeO.none _
   | refine LeO.ite ?_ ?_
   | refine LeO.bind ?_ (fun _ => ?_)
set_option maxHeartbeats 8000000 in
set_option maxRecDepth 100000 in
theorem spec_l13Loose.calls (k : Nat) (a0 : Int) (A1 : Option Addr) (c1 : Nat) (l1 : List (S103)) (r : List Int) (w : World) (hr1 : Kd.C k103 w A1 l1.length l1) (hc1 : l1.length ≤ c1) (h : spec_l13Loose.f k a0 l1 = some r) :
  Calls Try.prog 97 #[.int .i64 a0, .slice A1 l1.length c1] w fun e w' => ∃ v0_ : Value, e = .returned (v0_) ∧ Kd.R (Kd.int .i64) 2 w' w.heap.size (fun _ => True) v0_ r ∧ Below w.heap.size w w' := by
 have HR1 := Aside0.mk hr1
 have HC1 := Aside0.mk hc1
 clear hr1 hc1
 have HB := Aside0.mk (Below.refl w.heap.size w)
 have H : (spec_l13Loose.l0 k a0 l1 (([] : List Int)) 0) = some r := h
 clear h
 obtain ⟨y476, hy476⟩ : ∃ y_ : List Int, y_ = (([] : List Int)) := ⟨_, rfl⟩
 replace H : (spec_l13Loose.l0 k a0 l1 y476 0) = some r := by first | (rw [hy476]; with_reducible exact H) | (have H2_ := (Option.bind_some _ _).symm.trans H; rw [hy476]; with_reducible exact H2_) | (have H2_ := (Option.bind_some _ _).symm.trans H; with_reducible exact H2_) | with_reducible exact H | (rw [hy476]; exact H) | exact H
 have Ny476 := Aside0.mk hy476
 clear hy476
 have H' := Aside0.mk H
 clear H
 go_enter Try.func97, Try.ntmps97
 go_wp2_with (first | ((with_reducible refine gate_dst (N := 7) rfl ?_); refine Kd.R_lit (Kd.int .i64) _ 2 ?hg (N := 7) ?hd (xs := ([] : List Int)) (inner := []) (ok := fun _ => True) (okp := fun _ => True) ?hr ?hp (fun _ hk => hk) trivial (Below.refl _ _) (Nat.le_refl _) (by simp) ?_; (case hd => rfl); (case hg => rfl); (case hr => first | (go_simp; done) | (go_simp; rfl)); (case hp => exact (Reps.none _ _)); intro v477 w3 ho4 hb hg_ hnew_; clear hg_ hnew_; (first | rw [← Ny476.out] at ho4 | (simp only [Int.reduceToNat] at ho4; rw [← Ny476.out] at ho4)); have n0_ := Aside0.mk (Kd.R_lower ho4 (below_size (bl_ HB.out))); have n1_ := Aside0.mk (below_step (bl_ HB.out) hb); clear HB; have HO478 := n0_; have HB := n1_; clear n0_ n1_; clear hb ho4))
 go_loopg [5, 6] k (fun kq v5 v6 w' => ∃ (x5_1 : List Int) (x6_1 : Int), v6 = .int .i64 x6_1 ∧ Aside0 (spec_l13Loose.l0 kq a0 l1 x5_1 x6_1 = some r) ∧ Aside0 (kq ≤ k) ∧ Aside0 (Kd.R (Kd.int .i64) 2 w' w.heap.size (fun _ => True) v5 x5_1) ∧ Aside0 (Below w.heap.size w w'))
 case atStart => exact ⟨(y476), (0), (by first | rfl | (simp; done) | (simp [*]; done)), H', ⟨Nat.le_refl _⟩, ⟨rk_ HO478.out⟩, ⟨bl_ HB.out⟩⟩
 case round =>
  clear H'
  try clear c1
  try clear p2
  obtain ⟨x5_1, x6_1, rfl, HA, HK1, HO_5, HB⟩ := hrel
  cases gk with
  | zero => exact absurd HA.out (by simp [spec_l13Loose.l0])
  | succ k1 =>
   have H := HA.out
   clear HA
   simp only [spec_l13Loose.l0] at H
   by_cases c5 : x6_1 < a0
   ·rw [if_pos c5] at H
    have c5b0 : decide (x6_1 < a0) = true := decide_eq_true c5
    clear c5
    replace H := Option.bind_eq_some_iff.mp H
    obtain ⟨t479, A60, H⟩ := H
    replace H : (if t479 < 0 then (if x5_1.length < 17592186044416 then (spec_l13Loose.l0 k1 a0 l1 (x5_1 ++ [x6_1]) (wrap64 (x6_1 + 1))) else (none)) else (spec_l13Loose.l0 k1 a0 l1 x5_1 (wrap64 (x6_1 + 1)))) = some r := H
    have A6 := Aside0.mk A60
    clear A60
    by_cases c7 : t479 < 0
    ·rw [if_pos c7] at H
     have c7b0 : decide (t479 < 0) = true := decide_eq_true c7
     clear c7
     by_cases c8 : x5_1.length < 17592186044416
     case neg =>
      rw [if_neg c8] at H
      exact absurd H (by simp)
     rw [if_pos c8] at H
     have LMc8 := Aside0.mk c8
     clear c8
     obtain ⟨y480, hy480⟩ : ∃ y_ : List Int, y_ = (x5_1 ++ [x6_1]) := ⟨_, rfl⟩
     replace H : (spec_l13Loose.l0 k1 a0 l1 y480 (wrap64 (x6_1 + 1))) = some r := by first | (rw [hy480]; with_reducible exact H) | (have H2_ := (Option.bind_some _ _).symm.trans H; rw [hy480]; with_reducible exact H2_) | (have H2_ := (Option.bind_some _ _).symm.trans H; with_reducible exact H2_) | with_reducible exact H | (rw [hy480]; exact H) | exact H
     have Ny480 := Aside0.mk hy480
     clear hy480
     have H' := Aside0.mk H
     clear H
     go_wp2_with (first | ((with_reducible refine gate_callee (f := 71) rfl ?_); refine goesL_ (some 15) rfl rfl Try.func71 (by kernel_rfl) rfl #[.slice A1 l1.length c1, .int .i64 x6_1] rfl ag_ ?_; (with_reducible refine (spec_l13Find.calls k1 _ _ l1 x6_1 t479 _ ?side1 ?side2 A6.out).mono ?_); (case side1 => exact r9_ HR1.out HB.out); (case side2 => exact HC1.out); rintro e w' ⟨rfl, ⟨nd, rfl⟩⟩; refine ⟨_, rfl, ?_⟩) | ((with_reducible refine gate_builtin (b := .append) (xs := #[.tmp 17, .tmp 19]) rfl ?_); at_builtin; refine Kd.R_append (Kd.int .i64) (w0 := w) w.heap.size rfl (.tmp 17) (.tmp 19) 41 2 (.int .i64 0) 8 rfl Try.underlying41 info2 rfl (by decide) (by omega) u5 x5_1 x6_1 [.int .i64 x6_1] (fun _ => True) (fun _ => False) rfl rfl ?aP (fun _ hk => hk.elim) ?aF ?aO ?aB ?aS ?aL ?_; (case aP => exact rfl); (case aB => exact (bl_ HB.out)); (case aF => exact (fun _ _ => trivial)); (case aO => exact (rk_ HO_5.out)); (case aS => exact (below_size (bl_ HB.out))); (case aL => have := LMc8.out; omega); intro v481 w9 ho hb hg hat; rw [← Ny480.out] at ho; have n0_ := Aside0.mk (hb); have n1_ := Aside0.mk (ho); clear HB; clear HO_5; have HB := n0_; have HO482 := n1_; clear n0_ n1_; clear ho hb hg hat))
     go_roundg k1
     case measure => have := HK1.out; omega
     case rel => exact ⟨(y480), (wrap64 (x6_1 + 1)), (by first | rfl | (simp; done) | (simp [*]; done)), H', ⟨by have := HK1.out; omega⟩, ⟨rk_ HO482.out⟩, ⟨bl_ HB.out⟩⟩
    ·rw [if_neg c7] at H
     have c7b0 : decide (t479 < 0) = false := decide_eq_false c7
     clear c7
     have H' := Aside0.mk H
     clear H
     go_wp2_with (first | ((with_reducible refine gate_callee (f := 71) rfl ?_); refine goesL_ (some 15) rfl rfl Try.func71 (by kernel_rfl) rfl #[.slice A1 l1.length c1, .int .i64 x6_1] rfl ag_ ?_; (with_reducible refine (spec_l13Find.calls k1 _ _ l1 x6_1 t479 _ ?side1 ?side2 A6.out).mono ?_); (case side1 => exact r9_ HR1.out HB.out); (case side2 => exact HC1.out); rintro e w' ⟨rfl, ⟨nd, rfl⟩⟩; refine ⟨_, rfl, ?_⟩))
     go_roundg k1
     case measure => have := HK1.out; omega
     case rel => exact ⟨(x5_1), (wrap64 (x6_1 + 1)), (by first | rfl | (simp; done) | (simp [*]; done)), H', ⟨by have := HK1.out; omega⟩, ⟨rk_ HO_5.out⟩, ⟨bl_ HB.out⟩⟩
   ·rw [if_neg c5] at H
    have c5b0 : decide (x6_1 < a0) = false := decide_eq_false c5
    clear c5
    obtain rfl := Option.some.inj H
    go_wp2
    go_ret
    exact ⟨_, by first | rfl | (simp [errW_none, errW_some] <;> rfl) | (simp [*, errW_none, errW_some] <;> rfl), rk_ HO_5.out, bl_ HB.out⟩
end
section
attribute [local go_sem high] eqA103
def spec_LooseCues.f (k : Nat) (l0 : List (S98)) (a1 : Int) (l2 : List (S103)) : Option (List Int × Int) := (spec_l13Code.f k l0 a1 l2 0 0).bind fun t483 => (if t483 = 0 then ((spec_l13Loose.f k a1 l2).bind fun t484 => (some (t484, 0))) else (some (([] : List Int), t483)))
theorem spec_LooseCues.mono : ∀ a0 a1 a2 k, LeO (spec_LooseCues.f k a0 a1 a2) (spec_LooseCues.f (k + 1) a0 a1 a2) := by
  intro a0 a1 a2 k
  unfold spec_LooseCues.f
  repeat' first
      | (with_reducible exact spec_l13Code.mono _ _ _ _ _ _)
      | (with_reducible exact spec_l13Loose.mono _ _ _)
      | (with_reducible exact LeO.refl _)
      | (with_reducible exact LeO.none _)
      | (with_reducible refine LeO.ite ?_ ?_)
      | (with_reducible refine LeO.bind ?_ (fun _ => ?_))
      | exact spec_l13Code.mono _ _ _ _ _ _
      | exact spec_l13Loose.mono _ _ _
      | exact LeO.none _
      | refine LeO.ite ?_ ?_
      | refine LeO.bind ?_ (fun _ => ?_)
set_option maxHeartbeats 8000000 in
set_option maxRecDepth 100000 in
theorem spec_LooseCues.calls (k : Nat) (A0 : Option Addr) (c0 : Nat) (l0 : List (S98)) (a1 : Int) (A2 : Option Addr) (c2 : Nat) (l2 : List (S103)) (r1 : List Int) (r2 : Int) (w : World) (hr0 : Kd.C k98 w A0 l0.length l0) (hc0 : l0.length ≤ c0) (hr2 : Kd.C k103 w A2 l2.length l2) (hc2 : l2.length ≤ c2) (h : spec_LooseCues.f k l0 a1 l2 = some (r1, r2)) :
    Calls Try.prog 63 #[.slice A0 l0.length c0, .int .i64 a1, .slice A2 l2.length c2] w fun e w' => ∃ v0_ : Value, e = .returned (.tuple #[v0_, .int .i64 r2]) ∧ Kd.R (Kd.int .i64) 2 w' w.heap.size (fun _ => True) v0_ r1 ∧ Below w.heap.size w w' := by
  have HR0 := Aside0.mk hr0
  have HC0 := Aside0.mk hc0
  clear hr0 hc0
  have HR2 := Aside0.mk hr2
  have HC2 := Aside0.mk hc2
  clear hr2 hc2
  have HB := Aside0.mk (Below.refl w.heap.size w)
  have H : ((spec_l13Code.f k l0 a1 l2 0 0).bind fun t483 => (if t483 = 0 then ((spec_l13Loose.f k a1 l2).bind fun t484 => (some (t484, 0))) else (some (([] : List Int), t483)))) = some (r1, r2) := h
  clear h
  replace H := Option.bind_eq_some_iff.mp H
  obtain ⟨t483, A40, H⟩ := H
  replace H : (if t483 = 0 then ((spec_l13Loose.f k a1 l2).bind fun t484 => (some (t484, 0))) else (some (([] : List Int), t483))) = some (r1, r2) := H
  have A4 := Aside0.mk A40
  clear A40
  by_cases c5 : t483 = 0
  · rw [if_pos c5] at H
    have c5b0 : (t483 == 0) = true := beq_iff_eq.mpr c5
    have c5b1 : (t483 != 0) = false := bne_eq_false_iff_eq.mpr c5
    clear c5
    replace H := Option.bind_eq_some_iff.mp H
    obtain ⟨t484, A60, H⟩ := H
    replace H : (some (t484, 0)) = some (r1, r2) := H
    have A6 := Aside0.mk A60
    clear A60
    simp only [Option.some.injEq, Prod.mk.injEq] at H
    obtain ⟨rfl, rfl⟩ := H
    go_enter Try.func63, Try.ntmps63
    go_wp2_with (first | ((with_reducible refine gate_callee (f := 96) rfl ?_); refine goesL_ (some 12) rfl rfl Try.func96 (by kernel_rfl) rfl #[.slice A0 l0.length c0, .int .i64 a1, .slice A2 l2.length c2, .int .i64 0, .int .i64 0] rfl ag_ ?_; (with_reducible refine (spec_l13Code.calls k _ _ l0 a1 _ _ l2 0 0 t483 _ ?side1 ?side2 ?side3 ?side4 A4.out).mono ?_); (case side1 => exact r6_ HR0.out); (case side2 => exact HC0.out); (case side3 => exact r6_ HR2.out); (case side4 => exact HC2.out); rintro e w7 ⟨rfl, hb⟩; refine ⟨_, rfl, ?_⟩; have n0_ := Aside0.mk (below_step (bl_ HB.out) hb); clear HB; have HB := n0_; clear n0_; (try clear hb); (try clear hb2); (try clear hk); (try clear hi)) | ((with_reducible refine gate_callee (f := 97) rfl ?_); refine goesL_ (some 18) rfl rfl Try.func97 (by kernel_rfl) rfl #[.int .i64 a1, .slice A2 l2.length c2] rfl ag_ ?_; (with_reducible refine (spec_l13Loose.calls k a1 _ _ l2 t484 _ ?side1 ?side2 A6.out).mono ?_); (case side1 => exact r9_ HR2.out HB.out); (case side2 => exact HC2.out); rintro e w8 ⟨v485, rfl, ho0, hb⟩; refine ⟨_, rfl, ?_⟩; have n0_ := Aside0.mk (Kd.R_lower ho0 (below_size (bl_ HB.out))); have n1_ := Aside0.mk (below_step (bl_ HB.out) hb); clear HB; have HO486 := n0_; have HB := n1_; clear n0_ n1_; (try clear hb); (try clear hb2); (try clear hk); (try clear hi); (try clear ho0)))
    go_ret2
    exact ⟨_, by first | rfl | (simp [errW_none, errW_some] <;> rfl) | (simp [*, errW_none, errW_some] <;> rfl), rk_ HO486.out, bl_ HB.out⟩
  · rw [if_neg c5] at H
    have c5b0 : (t483 == 0) = false := beq_eq_false_iff_ne.mpr c5
    have c5b1 : (t483 != 0) = true := bne_iff_ne.mpr c5
    simp only [Option.some.injEq, Prod.mk.injEq] at H
    obtain ⟨rfl, rfl⟩ := H
    go_enter Try.func63, Try.ntmps63
    go_wp2_with (first | ((with_reducible refine gate_callee (f := 96) rfl ?_); refine goesL_ (some 12) rfl rfl Try.func96 (by kernel_rfl) rfl #[.slice A0 l0.length c0, .int .i64 a1, .slice A2 l2.length c2, .int .i64 0, .int .i64 0] rfl ag_ ?_; (with_reducible refine (spec_l13Code.calls k _ _ l0 a1 _ _ l2 0 0 t483 _ ?side1 ?side2 ?side3 ?side4 A4.out).mono ?_); (case side1 => exact r6_ HR0.out); (case side2 => exact HC0.out); (case side3 => exact r6_ HR2.out); (case side4 => exact HC2.out); rintro e w9 ⟨rfl, hb⟩; refine ⟨_, rfl, ?_⟩; have n0_ := Aside0.mk (below_step (bl_ HB.out) hb); clear HB; have HB := n0_; clear n0_; (try clear hb); (try clear hb2); (try clear hk); (try clear hi)))
    go_ret2
    exact ⟨_, by first | rfl | (simp [errW_none, errW_some] <;> rfl) | (simp [*, errW_none, errW_some] <;> rfl), by first | exact Kd.R_nil _ _ _ _ _ | exact Kd.N_nil _ _ _ _ _ | exact Kd.V_nil _ _ _ _ _ | exact Kd.Q_nil _ _ _ _ _ | exact Kd.S_nil _ _ _ _ _, bl_ HB.out⟩
end
section
attribute [local go_sem high] eqA103
def spec_DrawFreePins.f (k : Nat) (l0 : List Int) : Option ((List (S98)) × Int × (List (S103)) × Int) := (spec_l01From.f k l0).bind fun bt487 => ((spec_l13Draw.f k bt487.1 bt487.2.1 bt487.2.2).bind fun bt491 => ((spec_l01Next.f bt487.1 bt491.2.2.2.1 bt491.2.2.2.2 (wrap64 ((bt491.1.length : Int) + 1))).bind fun bt500 => ((spec_l01Next.f bt487.1 bt500.2.1 bt500.2.2 24).bind fun bt503 => (some (bt491.1, bt491.2.1, bt491.2.2.1, wrap64 (bt500.1 - (wrap64 (Int.tdiv bt503.1 23))))))))
theorem spec_DrawFreePins.mono : ∀ a0 k, LeO (spec_DrawFreePins.f k a0) (spec_DrawFreePins.f (k + 1) a0) := by
 intro a0 k
 unfold spec_DrawFreePins.f
 repeat' first
   | (with_reducible exact spec_l01From.mono _ _)
   | (with_reducible exact spec_l13Draw.mono _ _ _ _)
   | (with_reducible exact LeO.refl _)
   | (with_reducible exact LeO.none _)
   | (with_reducible refine LeO.ite ?_ ?_)
   | (with_reducible refine LeO.bind ?_ (fun _ => ?_))
   | exact spec_l01From.mono _ _
   | exact spec_l13Draw.mono _ _ _ _
   | exact LeO.none _
   | refine LeO.ite ?_ ?_
   | refine LeO.bind ?_ (fun _ => ?_)
set_option maxHeartbeats 8000000 in
set_option maxRecDepth 100000 in
theorem spec_DrawFreePins.calls (k : Nat) (A0 : Option Addr) (c0 : Nat) (l0 : List Int) (r1 : List (S98)) (r2 : Int) (r3 : List (S103)) (r4 : Int) (w : World) (hr0 : Kd.C (Kd.int .u8) w A0 l0.length l0) (hc0 : l0.length ≤ c0) (h : spec_DrawFreePins.f k l0 = some (r1, r2, r3, r4)) :
  Calls Try.prog 64 #[.slice A0 l0.length c0] w fun e w' => ∃ v0_ v2_ : Value, e = .returned (.tuple #[v0_, .int .i64 r2, v2_, .int .i64 r4]) ∧ Kd.R k98 98 w' w.heap.size (fun _ => True) v0_ r1 ∧ Kd.R k103 103 w' w.heap.size (fun _ => True) v2_ r3 ∧ Below w.heap.size w w' := by
 have HR0 := Aside0.mk hr0
 have HC0 := Aside0.mk hc0
 clear hr0 hc0
 have HB := Aside0.mk (Below.refl w.heap.size w)
 have H : ((spec_l01From.f k l0).bind fun bt487 => ((spec_l13Draw.f k bt487.1 bt487.2.1 bt487.2.2).bind fun bt491 => ((spec_l01Next.f bt487.1 bt491.2.2.2.1 bt491.2.2.2.2 (wrap64 ((bt491.1.length : Int) + 1))).bind fun bt500 => ((spec_l01Next.f bt487.1 bt500.2.1 bt500.2.2 24).bind fun bt503 => (some (bt491.1, bt491.2.1, bt491.2.2.1, wrap64 (bt500.1 - (wrap64 (Int.tdiv bt503.1 23))))))))) = some (r1, r2, r3, r4) := h
 clear h
 replace H := Option.bind_eq_some_iff.mp H
 obtain ⟨⟨t487, t488, t489⟩, A20, H⟩ := H
 replace H : ((spec_l13Draw.f k t487 t488 t489).bind fun bt491 => ((spec_l01Next.f t487 bt491.2.2.2.1 bt491.2.2.2.2 (wrap64 ((bt491.1.length : Int) + 1))).bind fun bt500 => ((spec_l01Next.f t487 bt500.2.1 bt500.2.2 24).bind fun bt503 => (some (bt491.1, bt491.2.1, bt491.2.2.1, wrap64 (bt500.1 - (wrap64 (Int.tdiv bt503.1 23)))))))) = some (r1, r2, r3, r4) := H
 have A2 := Aside0.mk A20
 clear A20
 replace H := Option.bind_eq_some_iff.mp H
 obtain ⟨⟨t491, t494, t495, t498, t499⟩, A30, H⟩ := H
 replace H : ((spec_l01Next.f t487 t498 t499 (wrap64 ((t491.length : Int) + 1))).bind fun bt500 => ((spec_l01Next.f t487 bt500.2.1 bt500.2.2 24).bind fun bt503 => (some (t491, t494, t495, wrap64 (bt500.1 - (wrap64 (Int.tdiv bt503.1 23))))))) = some (r1, r2, r3, r4) := H
 have A3 := Aside0.mk A30
 clear A30
 replace H := Option.bind_eq_some_iff.mp H
 obtain ⟨⟨t500, t501, t502⟩, A40, H⟩ := H
 replace H : ((spec_l01Next.f t487 t501 t502 24).bind fun bt503 => (some (t491, t494, t495, wrap64 (t500 - (wrap64 (Int.tdiv bt503.1 23)))))) = some (r1, r2, r3, r4) := H
 have A4 := Aside0.mk A40
 clear A40
 replace H := Option.bind_eq_some_iff.mp H
 obtain ⟨⟨t503, t504, t505⟩, A50, H⟩ := H
 replace H : (some (t491, t494, t495, wrap64 (t500 - (wrap64 (Int.tdiv t503 23))))) = some (r1, r2, r3, r4) := H
 have A5 := Aside0.mk A50
 clear A50
 simp only [Option.some.injEq, Prod.mk.injEq] at H
 obtain ⟨rfl, rfl, rfl, rfl⟩ := H
 go_enter Try.func64, Try.ntmps64
 go_wp2_with (first | ((with_reducible refine gate_callee (f := 113) rfl ?_); refine goesL_ (some 11) rfl rfl Try.func113 (by kernel_rfl) rfl #[.slice A0 l0.length c0] rfl ag_ ?_; (with_reducible refine (spec_l01From.calls k _ _ l0 t487 t488 t489 w _ ?side1 ?side2 ?side3 A2.out).mono ?_); (case side1 => exact r13_ HB.out); (case side2 => exact HR0.out); (case side3 => exact HC0.out); rintro e w6 ⟨g490, rfl, hi, hb, hb2⟩; refine ⟨_, rfl, ?_⟩; have n0_ := Aside0.mk (hb); have n1_ := Aside0.mk (hi); clear HB; have HB := n0_; have HI490 := n1_; clear n0_ n1_; (try clear hb); (try clear hb2); (try clear hk); (try clear hi)) | ((with_reducible refine gate_callee (f := 126) rfl ?_); refine goesL_ (some 14) rfl rfl Try.func126 (by kernel_rfl) rfl #[.pointer (some ⟨g490, 0, none⟩)] rfl ag_ ?_; (with_reducible refine (spec_l13Draw.calls k g490 t487 t488 t489 t491 t494 t495 t498 t499 w _ ?side1 ?side2 A3.out).mono ?_); (case side1 => exact r0_ HI490.out); (case side2 => exact r3_ HB.out HI490.out); rintro e w7 ⟨v492, v496, rfl, ho0, ho1, hi, hb, hk⟩; refine ⟨_, rfl, ?_⟩; have n0_ := Aside0.mk (Kd.R_lower ho0 (below_size (r3_ HB.out HI490.out))); have n1_ := Aside0.mk (Kd.R_lower ho1 (below_size (r3_ HB.out HI490.out))); have n2_ := Aside0.mk (hb); have n3_ := Aside0.mk (hi); clear HB; clear HI490; have HO493 := n0_; have HO497 := n1_; have HB := n2_; have HI490 := n3_; clear n0_ n1_ n2_ n3_; (try clear hb); (try clear hb2); (try clear hk); (try clear hi); (try clear ho0); (try clear ho1); obtain ⟨Ao8, co8, eo8⟩ := Kd.R_slice HO493.out; subst eo8) | ((with_reducible refine gate_callee (f := 119) rfl ?_); refine goesL_ (some 25) rfl rfl Try.func119 (by kernel_rfl) rfl #[.pointer (some ⟨g490, 0, none⟩), .int .i64 (wrap64 ((t491.length : Int) + 1))] rfl ag_ ?_; (with_reducible refine (spec_l01Next.calls g490 t487 t498 t499 (wrap64 ((t491.length : Int) + 1)) t500 t501 t502 w _ ?side1 ?side2 A4.out).mono ?_); (case side1 => exact r0_ HI490.out); (case side2 => exact r3_ HB.out HI490.out); rintro e w9 ⟨rfl, hi, hb, hk⟩; refine ⟨_, rfl, ?_⟩; have n0_ := Aside0.mk (Kd.R_mono (Kd.R_keep (IsS167.apart (show IsS167 w _ g490 t487 t498 t499 from r0_ HI490.out) (rk_ HO493.out) (by decide)) hk (fun _ h => h.2)) (fun _ h => h.1)); have n1_ := Aside0.mk (Kd.R_mono (Kd.R_keep (IsS167.apart (show IsS167 w _ g490 t487 t498 t499 from r0_ HI490.out) (rk_ HO497.out) (by decide)) hk (fun _ h => h.2)) (fun _ h => h.1)); have n2_ := Aside0.mk (hb); have n3_ := Aside0.mk (hi); clear HO493; clear HO497; clear HB; clear HI490; have HO493 := n0_; have HO497 := n1_; have HB := n2_; have HI490 := n3_; clear n0_ n1_ n2_ n3_; (try clear hb); (try clear hb2); (try clear hk); (try clear hi)) | ((with_reducible refine gate_callee (f := 119) rfl ?_); refine goesL_ (some 27) rfl rfl Try.func119 (by kernel_rfl) rfl #[.pointer (some ⟨g490, 0, none⟩), .int .i64 24] rfl ag_ ?_; (with_reducible refine (spec_l01Next.calls g490 t487 t501 t502 24 t503 t504 t505 w _ ?side1 ?side2 A5.out).mono ?_); (case side1 => exact r0_ HI490.out); (case side2 => exact r3_ HB.out HI490.out); rintro e w10 ⟨rfl, hi, hb, hk⟩; refine ⟨_, rfl, ?_⟩; have n0_ := Aside0.mk (Kd.R_mono (Kd.R_keep (IsS167.apart (show IsS167 w _ g490 t487 t501 t502 from r0_ HI490.out) (rk_ HO493.out) (by decide)) hk (fun _ h => h.2)) (fun _ h => h.1)); have n1_ := Aside0.mk (Kd.R_mono (Kd.R_keep (IsS167.apart (show IsS167 w _ g490 t487 t501 t502 from r0_ HI490.out) (rk_ HO497.out) (by decide)) hk (fun _ h => h.2)) (fun _ h => h.1)); have n2_ := Aside0.mk (hb); have n3_ := Aside0.mk (hi); clear HO493; clear HO497; clear HB; clear HI490; have HO493 := n0_; have HO497 := n1_; have HB := n2_; have HI490 := n3_; clear n0_ n1_ n2_ n3_; (try clear hb); (try clear hb2); (try clear hk); (try clear hi)))
 refine bodyPost_ret (results_list (rs := [.tmp 2, .tmp 3, .tmp 4, .tmp 5]) rfl (by simp) (.tmp (.tmp (.tmp (.tmp .nil))))) rfl ?_
 exact ⟨_, _, by first | rfl | (simp [errW_none, errW_some] <;> rfl) | (simp [*, errW_none, errW_some] <;> rfl), rk_ HO493.out, rk_ HO497.out, r3_ HB.out HI490.out⟩
end
section
attribute [local go_sem high] eqA103
def impl_FreePins.f (k : Nat) (l0 : List (S98)) (a1 : Int) (l2 : List (S103)) (a3 : Int) : Option (List Int × Int) := (impl_AreWires.f k l0 a1 l2).bind fun t506 => (if t506 = true then ((impl_isIndex.f a3 (l0.length : Int)).bind fun t507 => (if t507 = true then ((impl_freePins.f k l0 l2 a3).bind fun t508 => (some (t508, 0))) else (some (([] : List Int), 2)))) else (some (([] : List Int), 1)))
theorem impl_FreePins.mono : ∀ a0 a1 a2 a3 k, LeO (impl_FreePins.f k a0 a1 a2 a3) (impl_FreePins.f (k + 1) a0 a1 a2 a3) := by
 intro a0 a1 a2 a3 k
 unfold impl_FreePins.f
 repeat' first
   | (with_reducible exact impl_AreWires.mono _ _ _ _)
   | (with_reducible exact impl_freePins.mono _ _ _ _)
   | (with_reducible exact LeO.refl _)
   | (with_reducible exact LeO.none _)
   | (with_reducible refine LeO.ite ?_ ?_)
   | (with_reducible refine LeO.bind ?_ (fun _ => ?_))
   | exact impl_AreWires.mono _ _ _ _
   | exact impl_freePins.mono _ _ _ _
   | exact LeO.none _
   | refine LeO.ite ?_ ?_
   | refine LeO.bind ?_ (fun _ => ?_)
set_option maxHeartbeats 8000000 in
set_option maxRecDepth 100000 in
theorem impl_FreePins.calls (k : Nat) (A0 : Option Addr) (c0 : Nat) (l0 : List (S98)) (a1 : Int) (A2 : Option Addr) (c2 : Nat) (l2 : List (S103)) (a3 : Int) (r1 : List Int) (r2 : Int) (w : World) (hr0 : Kd.C k98 w A0 l0.length l0) (hc0 : l0.length ≤ c0) (hr2 : Kd.C k103 w A2 l2.length l2) (hc2 : l2.length ≤ c2) (h : impl_FreePins.f k l0 a1 l2 a3 = some (r1, r2)) :
  Calls Try.prog 65 #[.slice A0 l0.length c0, .int .i64 a1, .slice A2 l2.length c2, .int .i64 a3] w fun e w' => ∃ v0_ : Value, e = .returned (.tuple #[v0_, .int .i64 r2]) ∧ Kd.R (Kd.int .i64) 2 w' w.heap.size (fun _ => True) v0_ r1 ∧ Below w.heap.size w w' := by
 have HR0 := Aside0.mk hr0
 have HC0 := Aside0.mk hc0
 clear hr0 hc0
 have HR2 := Aside0.mk hr2
 have HC2 := Aside0.mk hc2
 clear hr2 hc2
 have HB := Aside0.mk (Below.refl w.heap.size w)
 have H : ((impl_AreWires.f k l0 a1 l2).bind fun t506 => (if t506 = true then ((impl_isIndex.f a3 (l0.length : Int)).bind fun t507 => (if t507 = true then ((impl_freePins.f k l0 l2 a3).bind fun t508 => (some (t508, 0))) else (some (([] : List Int), 2)))) else (some (([] : List Int), 1)))) = some (r1, r2) := h
 clear h
 replace H := Option.bind_eq_some_iff.mp H
 obtain ⟨t506, A50, H⟩ := H
 replace H : (if t506 = true then ((impl_isIndex.f a3 (l0.length : Int)).bind fun t507 => (if t507 = true then ((impl_freePins.f k l0 l2 a3).bind fun t508 => (some (t508, 0))) else (some (([] : List Int), 2)))) else (some (([] : List Int), 1))) = some (r1, r2) := H
 have A5 := Aside0.mk A50
 clear A50
 by_cases c6 : t506 = true
 ·subst c6
  have H1 : ((impl_isIndex.f a3 (l0.length : Int)).bind fun t507 => (if t507 = true then ((impl_freePins.f k l0 l2 a3).bind fun t508 => (some (t508, 0))) else (some (([] : List Int), 2)))) = some (r1, r2) := by rw [if_pos rfl] at H; exact H
  clear H
  have H := H1
  clear H1
  replace H := Option.bind_eq_some_iff.mp H
  obtain ⟨t507, A70, H⟩ := H
  replace H : (if t507 = true then ((impl_freePins.f k l0 l2 a3).bind fun t508 => (some (t508, 0))) else (some (([] : List Int), 2))) = some (r1, r2) := H
  have A7 := Aside0.mk A70
  clear A70
  by_cases c8 : t507 = true
  ·subst c8
   have H1 : ((impl_freePins.f k l0 l2 a3).bind fun t508 => (some (t508, 0))) = some (r1, r2) := by rw [if_pos rfl] at H; exact H
   clear H
   have H := H1
   clear H1
   replace H := Option.bind_eq_some_iff.mp H
   obtain ⟨t508, A90, H⟩ := H
   replace H : (some (t508, 0)) = some (r1, r2) := H
   have A9 := Aside0.mk A90
   clear A90
   simp only [Option.some.injEq, Prod.mk.injEq] at H
   obtain ⟨rfl, rfl⟩ := H
   go_enter Try.func65, Try.ntmps65
   go_wp2_with (first | ((with_reducible refine gate_callee (f := 68) rfl ?_); refine goesL_ (some 13) rfl rfl Try.func68 (by kernel_rfl) rfl #[.slice A0 l0.length c0, .int .i64 a1, .slice A2 l2.length c2] rfl ag_ ?_; (with_reducible refine (impl_AreWires.calls k _ _ l0 a1 _ _ l2 true _ ?side1 ?side2 ?side3 ?side4 A5.out).mono ?_); (case side1 => exact r6_ HR0.out); (case side2 => exact HC0.out); (case side3 => exact r6_ HR2.out); (case side4 => exact HC2.out); rintro e w10 ⟨rfl, hb⟩; refine ⟨_, rfl, ?_⟩; have n0_ := Aside0.mk (below_step (bl_ HB.out) hb); clear HB; have HB := n0_; clear n0_; (try clear hb); (try clear hb2); (try clear hk); (try clear hi)) | ((with_reducible refine gate_callee (f := 127) rfl ?_); refine goesL_ (some 18) rfl rfl Try.func127 (by kernel_rfl) rfl #[.int .i64 a3, .int .i64 (l0.length : Int)] rfl ag_ ?_; (with_reducible refine (impl_isIndex.calls a3 (l0.length : Int) true _ A7.out).mono ?_); rintro e w' ⟨rfl, ⟨nd, rfl⟩⟩; refine ⟨_, rfl, ?_⟩) | ((with_reducible refine gate_callee (f := 128) rfl ?_); refine goesL_ (some 23) rfl rfl Try.func128 (by kernel_rfl) rfl #[.slice A0 l0.length c0, .slice A2 l2.length c2, .int .i64 a3] rfl ag_ ?_; (with_reducible refine (impl_freePins.calls k _ _ l0 _ _ l2 a3 t508 _ ?side1 ?side2 ?side3 ?side4 A9.out).mono ?_); (case side1 => exact r12_ HR0.out HB.out); (case side2 => exact HC0.out); (case side3 => exact r12_ HR2.out HB.out); (case side4 => exact HC2.out); rintro e w11 ⟨v509, rfl, ho0, hb⟩; refine ⟨_, rfl, ?_⟩; have n0_ := Aside0.mk (Kd.R_lower ho0 (below_size (bl_ HB.out))); have n1_ := Aside0.mk (below_step (bl_ HB.out) hb); clear HB; have HO510 := n0_; have HB := n1_; clear n0_ n1_; (try clear hb); (try clear hb2); (try clear hk); (try clear hi); (try clear ho0)))
   go_ret2
   exact ⟨_, by first | rfl | (simp [errW_none, errW_some] <;> rfl) | (simp [*, errW_none, errW_some] <;> rfl), rk_ HO510.out, bl_ HB.out⟩
  ·replace c8 := Bool.eq_false_iff.mpr c8
   subst c8
   have H1 : (some (([] : List Int), 2)) = some (r1, r2) := by rw [if_neg (show ¬ (false = true) by decide)] at H; exact H
   clear H
   have H := H1
   clear H1
   simp only [Option.some.injEq, Prod.mk.injEq] at H
   obtain ⟨rfl, rfl⟩ := H
   go_enter Try.func65, Try.ntmps65
   go_wp2_with (first | ((with_reducible refine gate_callee (f := 68) rfl ?_); refine goesL_ (some 13) rfl rfl Try.func68 (by kernel_rfl) rfl #[.slice A0 l0.length c0, .int .i64 a1, .slice A2 l2.length c2] rfl ag_ ?_; (with_reducible refine (impl_AreWires.calls k _ _ l0 a1 _ _ l2 true _ ?side1 ?side2 ?side3 ?side4 A5.out).mono ?_); (case side1 => exact r6_ HR0.out); (case side2 => exact HC0.out); (case side3 => exact r6_ HR2.out); (case side4 => exact HC2.out); rintro e w12 ⟨rfl, hb⟩; refine ⟨_, rfl, ?_⟩; have n0_ := Aside0.mk (below_step (bl_ HB.out) hb); clear HB; have HB := n0_; clear n0_; (try clear hb); (try clear hb2); (try clear hk); (try clear hi)) | ((with_reducible refine gate_callee (f := 127) rfl ?_); refine goesL_ (some 18) rfl rfl Try.func127 (by kernel_rfl) rfl #[.int .i64 a3, .int .i64 (l0.length : Int)] rfl ag_ ?_; (with_reducible refine (impl_isIndex.calls a3 (l0.length : Int) false _ A7.out).mono ?_); rintro e w' ⟨rfl, ⟨nd, rfl⟩⟩; refine ⟨_, rfl, ?_⟩))
   go_ret2
   exact ⟨_, by first | rfl | (simp [errW_none, errW_some] <;> rfl) | (simp [*, errW_none, errW_some] <;> rfl), by first | exact Kd.R_nil _ _ _ _ _ | exact Kd.N_nil _ _ _ _ _ | exact Kd.V_nil _ _ _ _ _ | exact Kd.Q_nil _ _ _ _ _ | exact Kd.S_nil _ _ _ _ _, bl_ HB.out⟩
 ·replace c6 := Bool.eq_false_iff.mpr c6
  subst c6
  have H1 : (some (([] : List Int), 1)) = some (r1, r2) := by rw [if_neg (show ¬ (false = true) by decide)] at H; exact H
  clear H
  have H := H1
  clear H1
  simp only [Option.some.injEq, Prod.mk.injEq] at H
  obtain ⟨rfl, rfl⟩ := H
  go_enter Try.func65, Try.ntmps65
  go_wp2_with (first | ((with_reducible refine gate_callee (f := 68) rfl ?_); refine goesL_ (some 13) rfl rfl Try.func68 (by kernel_rfl) rfl #[.slice A0 l0.length c0, .int .i64 a1, .slice A2 l2.length c2] rfl ag_ ?_; (with_reducible refine (impl_AreWires.calls k _ _ l0 a1 _ _ l2 false _ ?side1 ?side2 ?side3 ?side4 A5.out).mono ?_); (case side1 => exact r6_ HR0.out); (case side2 => exact HC0.out); (case side3 => exact r6_ HR2.out); (case side4 => exact HC2.out); rintro e w13 ⟨rfl, hb⟩; refine ⟨_, rfl, ?_⟩; have n0_ := Aside0.mk (below_step (bl_ HB.out) hb); clear HB; have HB := n0_; clear n0_; (try clear hb); (try clear hb2); (try clear hk); (try clear hi)))
  go_ret2
  exact ⟨_, by first | rfl | (simp [errW_none, errW_some] <;> rfl) | (simp [*, errW_none, errW_some] <;> rfl), by first | exact Kd.R_nil _ _ _ _ _ | exact Kd.N_nil _ _ _ _ _ | exact Kd.V_nil _ _ _ _ _ | exact Kd.Q_nil _ _ _ _ _ | exact Kd.S_nil _ _ _ _ _, bl_ HB.out⟩
end
section
attribute [local go_sem high] eqA103
def spec_FreePins.f (k : Nat) (l0 : List (S98)) (a1 : Int) (l2 : List (S103)) (a3 : Int) : Option (List Int × Int) := (spec_l13Code.f k l0 a1 l2 a3 0).bind fun t511 => (if t511 = 0 then ((spec_l13Free.f k l0 l2 a3).bind fun t512 => (some (t512, 0))) else (some (([] : List Int), t511)))
theorem spec_FreePins.mono : ∀ a0 a1 a2 a3 k, LeO (spec_FreePins.f k a0 a1 a2 a3) (spec_FreePins.f (k + 1) a0 a1 a2 a3) := by
  intro a0 a1 a2 a3 k
  unfold spec_FreePins.f
  repeat' first
      | (with_reducible exact spec_l13Code.mono _ _ _ _ _ _)
      | (with_reducible exact spec_l13Free.mono _ _ _ _)
      | (with_reducible exact LeO.refl _)
      | (with_reducible exact LeO.none _)
      | (with_reducible refine LeO.ite ?_ ?_)
      | (with_reducible refine LeO.bind ?_ (fun _ => ?_))
      | exact spec_l13Code.mono _ _ _ _ _ _
      | exact spec_l13Free.mono _ _ _ _
      | exact LeO.none _
      | refine LeO.ite ?_ ?_
      | refine LeO.bind ?_ (fun _ => ?_)
set_option maxHeartbeats 8000000 in
set_option maxRecDepth 100000 in
theorem spec_FreePins.calls (k : Nat) (A0 : Option Addr) (c0 : Nat) (l0 : List (S98)) (a1 : Int) (A2 : Option Addr) (c2 : Nat) (l2 : List (S103)) (a3 : Int) (r1 : List Int) (r2 : Int) (w : World) (hr0 : Kd.C k98 w A0 l0.length l0) (hc0 : l0.length ≤ c0) (hr2 : Kd.C k103 w A2 l2.length l2) (hc2 : l2.length ≤ c2) (h : spec_FreePins.f k l0 a1 l2 a3 = some (r1, r2)) :
    Calls Try.prog 66 #[.slice A0 l0.length c0, .int .i64 a1, .slice A2 l2.length c2, .int .i64 a3] w fun e w' => ∃ v0_ : Value, e = .returned (.tuple #[v0_, .int .i64 r2]) ∧ Kd.R (Kd.int .i64) 2 w' w.heap.size (fun _ => True) v0_ r1 ∧ Below w.heap.size w w' := by
  have HR0 := Aside0.mk hr0
  have HC0 := Aside0.mk hc0
  clear hr0 hc0
  have HR2 := Aside0.mk hr2
  have HC2 := Aside0.mk hc2
  clear hr2 hc2
  have HB := Aside0.mk (Below.refl w.heap.size w)
  have H : ((spec_l13Code.f k l0 a1 l2 a3 0).bind fun t511 => (if t511 = 0 then ((spec_l13Free.f k l0 l2 a3).bind fun t512 => (some (t512, 0))) else (some (([] : List Int), t511)))) = some (r1, r2) := h
  clear h
  replace H := Option.bind_eq_some_iff.mp H
  obtain ⟨t511, A50, H⟩ := H
  replace H : (if t511 = 0 then ((spec_l13Free.f k l0 l2 a3).bind fun t512 => (some (t512, 0))) else (some (([] : List Int), t511))) = some (r1, r2) := H
  have A5 := Aside0.mk A50
  clear A50
  by_cases c6 : t511 = 0
  · rw [if_pos c6] at H
    have c6b0 : (t511 == 0) = true := beq_iff_eq.mpr c6
    have c6b1 : (t511 != 0) = false := bne_eq_false_iff_eq.mpr c6
    clear c6
    replace H := Option.bind_eq_some_iff.mp H
    obtain ⟨t512, A70, H⟩ := H
    replace H : (some (t512, 0)) = some (r1, r2) := H
    have A7 := Aside0.mk A70
    clear A70
    simp only [Option.some.injEq, Prod.mk.injEq] at H
    obtain ⟨rfl, rfl⟩ := H
    go_enter Try.func66, Try.ntmps66
    go_wp2_with (first | ((with_reducible refine gate_callee (f := 96) rfl ?_); refine goesL_ (some 15) rfl rfl Try.func96 (by kernel_rfl) rfl #[.slice A0 l0.length c0, .int .i64 a1, .slice A2 l2.length c2, .int .i64 a3, .int .i64 0] rfl ag_ ?_; (with_reducible refine (spec_l13Code.calls k _ _ l0 a1 _ _ l2 a3 0 t511 _ ?side1 ?side2 ?side3 ?side4 A5.out).mono ?_); (case side1 => exact r6_ HR0.out); (case side2 => exact HC0.out); (case side3 => exact r6_ HR2.out); (case side4 => exact HC2.out); rintro e w8 ⟨rfl, hb⟩; refine ⟨_, rfl, ?_⟩; have n0_ := Aside0.mk (below_step (bl_ HB.out) hb); clear HB; have HB := n0_; clear n0_; (try clear hb); (try clear hb2); (try clear hk); (try clear hi)) | ((with_reducible refine gate_callee (f := 129) rfl ?_); refine goesL_ (some 22) rfl rfl Try.func129 (by kernel_rfl) rfl #[.slice A0 l0.length c0, .slice A2 l2.length c2, .int .i64 a3] rfl ag_ ?_; (with_reducible refine (spec_l13Free.calls k _ _ l0 _ _ l2 a3 t512 _ ?side1 ?side2 ?side3 ?side4 A7.out).mono ?_); (case side1 => exact r9_ HR0.out HB.out); (case side2 => exact HC0.out); (case side3 => exact r9_ HR2.out HB.out); (case side4 => exact HC2.out); rintro e w9 ⟨v513, rfl, ho0, hb⟩; refine ⟨_, rfl, ?_⟩; have n0_ := Aside0.mk (Kd.R_lower ho0 (below_size (bl_ HB.out))); have n1_ := Aside0.mk (below_step (bl_ HB.out) hb); clear HB; have HO514 := n0_; have HB := n1_; clear n0_ n1_; (try clear hb); (try clear hb2); (try clear hk); (try clear hi); (try clear ho0)))
    go_ret2
    exact ⟨_, by first | rfl | (simp [errW_none, errW_some] <;> rfl) | (simp [*, errW_none, errW_some] <;> rfl), rk_ HO514.out, bl_ HB.out⟩
  · rw [if_neg c6] at H
    have c6b0 : (t511 == 0) = false := beq_eq_false_iff_ne.mpr c6
    have c6b1 : (t511 != 0) = true := bne_iff_ne.mpr c6
    simp only [Option.some.injEq, Prod.mk.injEq] at H
    obtain ⟨rfl, rfl⟩ := H
    go_enter Try.func66, Try.ntmps66
    go_wp2_with (first | ((with_reducible refine gate_callee (f := 96) rfl ?_); refine goesL_ (some 15) rfl rfl Try.func96 (by kernel_rfl) rfl #[.slice A0 l0.length c0, .int .i64 a1, .slice A2 l2.length c2, .int .i64 a3, .int .i64 0] rfl ag_ ?_; (with_reducible refine (spec_l13Code.calls k _ _ l0 a1 _ _ l2 a3 0 t511 _ ?side1 ?side2 ?side3 ?side4 A5.out).mono ?_); (case side1 => exact r6_ HR0.out); (case side2 => exact HC0.out); (case side3 => exact r6_ HR2.out); (case side4 => exact HC2.out); rintro e w10 ⟨rfl, hb⟩; refine ⟨_, rfl, ?_⟩; have n0_ := Aside0.mk (below_step (bl_ HB.out) hb); clear HB; have HB := n0_; clear n0_; (try clear hb); (try clear hb2); (try clear hk); (try clear hi)))
    go_ret2
    exact ⟨_, by first | rfl | (simp [errW_none, errW_some] <;> rfl) | (simp [*, errW_none, errW_some] <;> rfl), by first | exact Kd.R_nil _ _ _ _ _ | exact Kd.N_nil _ _ _ _ _ | exact Kd.V_nil _ _ _ _ _ | exact Kd.Q_nil _ _ _ _ _ | exact Kd.S_nil _ _ _ _ _, bl_ HB.out⟩
end
end Go.Proofs.Ytalcbcelalbhiaa.PFnWires
