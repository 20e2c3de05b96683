/- QFnTablesg of the law FnTables: taken over, declaration by declaration, as far as the law leans on it (the words and the printed functions are the kit's own print). No condition but what each says. -/
import Derived.Test.YtedcdhnbceaaeaaZFnTablesav
import Derived.Test.YtedcdhnbceaaeaaZFnTablesbd
import Derived.Test.YtedcdhnbceaaeaaZFnTablesaw
import Derived.Test.YtedcdhnbceaaeaaZFnTablesax
namespace Go.Proofs.Ytedcdhnbceaaeaa.PFnTables
open Go.RowKit Go.Proofs.YtedcdhnbceaaeaaW.PrintWords Go.Proofs.YtedcdhnbceaaeaaW.PrintLast Go.Proofs.YtedcdhnbceaaeaaW.PrintMore
attribute [local go_sem] max2_int min2_int max_two min_two max_three min_three max_four min_four   -- for this text's walks alone
set_option linter.unusedVariables false
set_option linter.unusedSimpArgs false
open Bool renaming true → t_, false → f_
mutual
def spec_MergeTables.j0 : Nat → List (S81) → List (S81) → Bool → Option ((List (S81)) × Int)
 | 0, _, _, _ => none
 | k + 1, x0, x1, x17 => if x17 = true then (some (([] : List (S81)), 1)) else ((some (([] : List (S81)) : List (S81))).bind fun y202 => (if y202.length + x0.length < 5864062014805 then (spec_MergeTables.l0 k x0 x1 (y202 ++ x0) 0) else (none)))
def spec_MergeTables.l0 : Nat → List (S81) → List (S81) → List (S81) → Int → Option ((List (S81)) × Int)
 | 0, _, _, _, _ => none
 | k + 1, x0, x1, x6, x7 => if x7 < (x1.length : Int) then (spec_MergeTables.l1 k x0 x1 x6 x7 0) else (if (x6.length : Int) > 12 then (some (([] : List (S81)), 3)) else (spec_MergeTables.l2 k x6 1))
def spec_MergeTables.l1 : Nat → List (S81) → List (S81) → List (S81) → Int → Int → Option ((List (S81)) × Int)
 | 0, _, _, _, _, _ => none
 | k + 1, x0, x1, x6, x7, x8 => if x8 < (x6.length : Int) then (if 0 ≤ x8 then (if 0 ≤ x7 then (if x7 < (x1.length : Int) then ((spec_l16Before.f ((rd_T81 x6 x8).f0) ((rd_T81 x6 x8).f1) ((rd_T81 x6 x8).f2) ((rd_T81 x1 x7).f0) ((rd_T81 x1 x7).f1) ((rd_T81 x1 x7).f2)).bind fun t210 => (if t210 = true then (spec_MergeTables.l1 k x0 x1 x6 x7 (wrap64 (x8 + 1))) else (if ((rd_T81 x6 x8).f0) = ((rd_T81 x1 x7).f0) then (if ((rd_T81 x6 x8).f1) = ((rd_T81 x1 x7).f1) then (spec_MergeTables.l0 k x0 x1 (x6.set (x8 : Int).toNat (⟨(rd_T81 x6 x8).f0, (rd_T81 x6 x8).f1, mx ((rd_T81 x6 x8).f2) ((rd_T81 x1 x7).f2)⟩ : S81)) (wrap64 (x7 + 1))) else ((some (([] : List (S81)) : List (S81))).bind fun y218 => (if x8 ≤ (x6.length : Int) then ((some (x6.take (x8 : Int).toNat : List (S81))).bind fun y221 => (if y218.length + y221.length < 5864062014805 then ((some (y218 ++ y221 : List (S81))).bind fun y225 => ((some (([(⟨(rd_T81 x1 x7).f0, (rd_T81 x1 x7).f1, (rd_T81 x1 x7).f2⟩ : S81)] : List (S81)) : List (S81))).bind fun y229 => (if y225.length + y229.length < 5864062014805 then ((some (y225 ++ y229 : List (S81))).bind fun y232 => ((some (x6.drop (x8 : Int).toNat : List (S81))).bind fun y235 => (if y232.length + y235.length < 5864062014805 then (spec_MergeTables.l0 k x0 x1 (y232 ++ y235) (wrap64 (x7 + 1))) else (none)))) else (none)))) else (none))) else (none)))) else ((some (([] : List (S81)) : List (S81))).bind fun y242 => (if x8 ≤ (x6.length : Int) then ((some (x6.take (x8 : Int).toNat : List (S81))).bind fun y245 => (if y242.length + y245.length < 5864062014805 then ((some (y242 ++ y245 : List (S81))).bind fun y249 => ((some (([(⟨(rd_T81 x1 x7).f0, (rd_T81 x1 x7).f1, (rd_T81 x1 x7).f2⟩ : S81)] : List (S81)) : List (S81))).bind fun y253 => (if y249.length + y253.length < 5864062014805 then ((some (y249 ++ y253 : List (S81))).bind fun y256 => ((some (x6.drop (x8 : Int).toNat : List (S81))).bind fun y259 => (if y256.length + y259.length < 5864062014805 then (spec_MergeTables.l0 k x0 x1 (y256 ++ y259) (wrap64 (x7 + 1))) else (none)))) else (none)))) else (none))) else (none)))))) else (none)) else (none)) else (none)) else ((some (([] : List (S81)) : List (S81))).bind fun y266 => (if 0 ≤ x8 then (if x8 ≤ (x6.length : Int) then ((some (x6.take (x8 : Int).toNat : List (S81))).bind fun y269 => (if y266.length + y269.length < 5864062014805 then ((some (y266 ++ y269 : List (S81))).bind fun y273 => (if 0 ≤ x7 then (if x7 < (x1.length : Int) then ((some (([(⟨(rd_T81 x1 x7).f0, (rd_T81 x1 x7).f1, (rd_T81 x1 x7).f2⟩ : S81)] : List (S81)) : List (S81))).bind fun y277 => (if y273.length + y277.length < 5864062014805 then ((some (y273 ++ y277 : List (S81))).bind fun y280 => ((some (x6.drop (x8 : Int).toNat : List (S81))).bind fun y283 => (if y280.length + y283.length < 5864062014805 then (spec_MergeTables.l0 k x0 x1 (y280 ++ y283) (wrap64 (x7 + 1))) else (none)))) else (none))) else (none)) else (none))) else (none))) else (none)) else (none)))
def spec_MergeTables.l2 : Nat → List (S81) → Int → Option ((List (S81)) × Int)
 | 0, _, _ => none
 | k + 1, x6, x9 => if x9 < (x6.length : Int) then (if 0 ≤ (wrap64 (x9 - 1)) then (if (wrap64 (x9 - 1)) < (x6.length : Int) then (if 0 ≤ x9 then (if ((rd_T81 x6 (wrap64 (x9 - 1))).f0) = ((rd_T81 x6 x9).f0) then (spec_MergeTables.l2 k (x6.set (x9 : Int).toNat (⟨(rd_T81 x6 x9).f0, (rd_T81 x6 x9).f1, mx ((rd_T81 x6 x9).f2) ((rd_T81 x6 (wrap64 (x9 - 1))).f2)⟩ : S81)) (wrap64 (x9 + 1))) else (spec_MergeTables.l2 k x6 (wrap64 (x9 + 1)))) else (none)) else (none)) else (none)) else (some (x6, 0))
end
def spec_MergeTables.f (k : Nat) (l0 : List (S81)) (l1 : List (S81)) : Option ((List (S81)) × Int) := (spec_IsTable.f k l0).bind fun t200 => (if t200 = true then ((spec_IsTable.f k l1).bind fun t201 => (spec_MergeTables.j0 k l0 l1 (!t201))) else (spec_MergeTables.j0 k l0 l1 true))
def spec_MergeTables.T8 : Bool × List (List Nat × List Nat) := (true, [([], []), ([], []), ([1], [1]), ([0, 2], [0, 2]), ([3], [3]), ([4], [4]), ([4], [4]), ([5, 6, 4], [4, 5, 6]), ([7, 4], [4, 7]), ([4], [4]), ([4], [4]), ([9, 10, 4], [4, 9, 10]), ([11, 4], [4, 11]), ([8, 12, 4, 4], [4, 8, 12]), ([4, 13], [4, 13])])
def spec_MergeTables.B8 : List Nat := [0, 0, 2, 7, 15, 31, 31, 127, 255, 31, 31, 1567, 3615, 8191, 16383]
theorem spec_MergeTables.tab8 : rtab .any (opsOf Try.f51 8) = spec_MergeTables.T8 := by kernel_rfl
theorem spec_MergeTables.bits8 : waitsOk spec_MergeTables.T8.2 spec_MergeTables.B8 = true := by kernel_rfl
def spec_MergeTables.T10 : Bool × List (List Nat × List Nat) := (true, [([], []), ([], []), ([1], [1]), ([0, 2], [0, 2]), ([3], [3]), ([4], [4]), ([4], [4]), ([5, 6, 4], [4, 5, 6]), ([7, 4], [4, 7]), ([8, 4], [4, 8]), ([4], [4]), ([4], [4]), ([10, 11, 4], [4, 10, 11]), ([12, 4], [4, 12]), ([13, 4], [4, 13]), ([9, 14, 4], [4, 9, 14]), ([4, 15], [4, 15]), ([16, 4], [16]), ([17], [17]), ([17], [17]), ([18, 19, 17], [17, 18, 19]), ([20, 17], [17, 20]), ([21, 17], [17, 21]), ([17], [17]), ([17], [17]), ([23, 24, 17], [17, 23, 24]), ([25, 17], [17, 25]), ([26, 17], [17, 26]), ([22, 27, 17], [17, 22, 27]), ([17, 28], [17, 28])])
def spec_MergeTables.B10 : List Nat := [0, 0, 2, 7, 15, 31, 31, 127, 255, 511, 31, 31, 3103, 7199, 15391, 32767, 65535, 131071, 262143, 262143, 1048575, 2097151, 4194303, 262143, 262143, 25427967, 58982399, 126091263, 268435455, 536870911]
theorem spec_MergeTables.tab10 : rtab .any (opsOf Try.f51 10) = spec_MergeTables.T10 := by kernel_rfl
theorem spec_MergeTables.bits10 : waitsOk spec_MergeTables.T10.2 spec_MergeTables.B10 = true := by kernel_rfl
def spec_MergeTables.T11 : Bool × List (List Nat × List Nat) := (true, [([], []), ([], []), ([], []), ([], []), ([2, 3], [2, 3]), ([4], [4]), ([5], [5]), ([], []), ([], []), ([7, 8], [7, 8]), ([9], [9]), ([10], [10]), ([6, 11], [6, 11]), ([0, 1, 0, 1, 2, 3, 4, 5, 6, 7, 8, 9, 10, 11, 12], [0, 1]), ([13, 0, 1, 2, 3, 4, 5, 6, 7, 8, 9, 10, 11, 12], [13]), ([14, 12, 0, 1, 2, 3, 4, 5, 6, 7, 8, 9, 10, 11, 12], [12, 14])])
def spec_MergeTables.B11 : List Nat := [0, 0, 0, 0, 12, 28, 60, 0, 0, 384, 896, 1920, 4092, 8191, 16383, 32767]
theorem spec_MergeTables.tab11 : rtab .any (opsOf Try.f51 11) = spec_MergeTables.T11 := by kernel_rfl
theorem spec_MergeTables.bits11 : waitsOk spec_MergeTables.T11.2 spec_MergeTables.B11 = true := by kernel_rfl
def spec_MergeTables.T12 : Bool × List (List Nat × List Nat) := (true, [([], []), ([], []), ([], []), ([1, 2], [1, 2]), ([0, 3], [0, 3]), ([], []), ([], []), ([5, 6], [5, 6]), ([7], [7]), ([8], [8]), ([4, 9, 4], [4, 9]), ([], []), ([], []), ([11, 12], [11, 12]), ([10, 13, 10], [10, 13]), ([14, 14, 0, 1, 2, 3, 4, 5, 6, 7, 8, 9, 10, 11, 12, 13, 14], [1, 11, 14])])
def spec_MergeTables.B12 : List Nat := [0, 0, 0, 6, 15, 0, 0, 96, 224, 480, 1023, 0, 0, 6144, 16383, 32767]
theorem spec_MergeTables.tab12 : rtab .any (opsOf Try.f51 12) = spec_MergeTables.T12 := by kernel_rfl
theorem spec_MergeTables.bits12 : waitsOk spec_MergeTables.T12.2 spec_MergeTables.B12 = true := by kernel_rfl
def spec_MergeTables.T18 : Bool × List (List Nat × List Nat) := (true, [([], []), ([], []), ([1], [1]), ([0, 2], [0, 2]), ([3], [3]), ([4], [4]), ([], []), ([], []), ([6, 7], [6, 7]), ([8], [8]), ([9], [9]), ([5, 10], [5, 10])])
def spec_MergeTables.B18 : List Nat := [0, 0, 2, 7, 15, 31, 0, 0, 192, 448, 960, 2047]
theorem spec_MergeTables.tab18 : rtab .any (opsOf Try.f51 18) = spec_MergeTables.T18 := by kernel_rfl
theorem spec_MergeTables.bits18 : waitsOk spec_MergeTables.T18.2 spec_MergeTables.B18 = true := by kernel_rfl
def spec_MergeTables.T19 : Bool × List (List Nat × List Nat) := (true, [([], []), ([], []), ([], []), ([], []), ([2, 3], [2, 3]), ([4], [4]), ([5], [5]), ([], []), ([], []), ([8], [8]), ([7, 9], [7, 9]), ([10], [10]), ([11], [11]), ([6, 12], [6, 12]), ([0, 1, 0, 1, 2, 3, 4, 5, 6, 7, 8, 9, 10, 11, 12, 13], [0, 1]), ([14, 0, 1, 2, 3, 4, 5, 6, 7, 8, 9, 10, 11, 12, 13], [14]), ([15, 13, 0, 1, 2, 3, 4, 5, 6, 7, 8, 9, 10, 11, 12, 13], [13, 15])])
def spec_MergeTables.B19 : List Nat := [0, 0, 0, 0, 12, 28, 60, 0, 0, 256, 896, 1920, 3968, 8188, 16383, 32767, 65535]
theorem spec_MergeTables.tab19 : rtab .any (opsOf Try.f51 19) = spec_MergeTables.T19 := by kernel_rfl
theorem spec_MergeTables.bits19 : waitsOk spec_MergeTables.T19.2 spec_MergeTables.B19 = true := by kernel_rfl
set_option maxHeartbeats 8000000 in
set_option maxRecDepth 100000 in
theorem spec_MergeTables.calls (k : Nat) (A0 : Option Addr) (c0 : Nat) (l0 : List (S81)) (A1 : Option Addr) (c1 : Nat) (l1 : List (S81)) (r1 : List (S81)) (r2 : Int) (w : World) (hr0 : Kd.C k81 w A0 l0.length l0) (hc0 : l0.length ≤ c0) (hr1 : Kd.C k81 w A1 l1.length l1) (hc1 : l1.length ≤ c1) (h : spec_MergeTables.f k l0 l1 = some (r1, r2)) :
  Calls Try.prog 51 #[.slice A0 l0.length c0, .slice A1 l1.length c1] w fun e w' => ∃ v0_ : Value, e = .returned (.tuple #[v0_, .int .i64 r2]) ∧ Kd.R k81 81 w' w.heap.size (fun _ => True) v0_ r1 ∧ Below w.heap.size w w' := by
 have hu81 := Try.underlying81
 have HR0 := Aside0.mk hr0
 have HC0 := Aside0.mk hc0
 clear hr0 hc0
 have HR1 := Aside0.mk hr1
 have HC1 := Aside0.mk hc1
 clear hr1 hc1
 have HB := Aside0.mk (Below.refl w.heap.size w)
 have H : ((spec_IsTable.f k l0).bind fun t200 => (if t200 = true then ((spec_IsTable.f k l1).bind fun t201 => (spec_MergeTables.j0 k l0 l1 (!t201))) else (spec_MergeTables.j0 k l0 l1 true))) = some (r1, r2) := h
 clear h
 have HC3 := Aside0.mk H
 clear H
 go_enter Try.func51, Try.ntmps51
 go_upto_region 1 with (fail)
 go_cut [17] (fun v17 wc => ∃ (kq : Nat) (x17_2 : Bool), v17 = .bool x17_2 ∧ Aside0 (spec_MergeTables.j0 kq l0 l1 x17_2 = some (r1, r2)) ∧ Aside0 (kq ≤ k) ∧ Aside0 (Below w.heap.size w wc))
 case first =>
  have H := HC3.out
  clear HC3
  replace H := Option.bind_eq_some_iff.mp H
  obtain ⟨t200, A40, H⟩ := H
  try dsimp only at H
  have A4 := Aside0.mk A40
  clear A40
  by_cases c5 : t200 = true
  case neg =>
   replace c5 := Bool.eq_false_iff.mpr c5
   subst c5
   rw [if_neg (show ¬ (false = true) by decide)] at H
   have H' := Aside0.mk H
   clear H
   go_wp2_with (first | ((with_reducible refine gate_callee (f := 147) rfl ?_); refine goesL_ (some 11) rfl rfl Try.func147 (by kernel_rfl) rfl #[.slice A0 l0.length c0] rfl ag_ ?_; (with_reducible refine (spec_IsTable.calls k _ _ l0 false _ ?side1 ?side2 A4.out).mono ?_); (case side1 => exact r7_ HR0.out HB.out); (case side2 => exact HC0.out); rintro e w9 ⟨rfl, hb⟩; refine ⟨_, rfl, ?_⟩; replace HB := Aside0.mk (below_step (bl_ HB.out) hb); (try clear hb); (try clear hb2); (try clear hk); (try clear hi)))
   go_meet
   case rel => exact ⟨_, (true), rs_, H', ⟨by first | omega | exact Nat.le_refl _⟩, ⟨bl_ HB.out⟩⟩
  subst c5
  rw [if_pos rfl] at H
  replace H := Option.bind_eq_some_iff.mp H
  obtain ⟨t201, A60, H⟩ := H
  try dsimp only at H
  have A6 := Aside0.mk A60
  clear A60
  have H' := Aside0.mk H
  clear H
  go_wp2_with (first | ((with_reducible refine gate_callee (f := 147) rfl ?_); refine goesL_ (some 11) rfl rfl Try.func147 (by kernel_rfl) rfl #[.slice A0 l0.length c0] rfl ag_ ?_; (with_reducible refine (spec_IsTable.calls k _ _ l0 true _ ?side1 ?side2 A4.out).mono ?_); (case side1 => exact r7_ HR0.out HB.out); (case side2 => exact HC0.out); rintro e w7 ⟨rfl, hb⟩; refine ⟨_, rfl, ?_⟩; replace HB := Aside0.mk (below_step (bl_ HB.out) hb); (try clear hb); (try clear hb2); (try clear hk); (try clear hi)) | (go_at_call 147; (with_reducible refine (spec_IsTable.calls k _ _ l1 t201 _ ?side1 ?side2 A6.out).mono ?_); (case side1 => exact r7_ HR1.out HB.out); (case side2 => exact HC1.out); rintro e w8 ⟨rfl, hb⟩; replace HB := Aside0.mk (below_step (bl_ HB.out) hb); (try clear hb); (try clear hb2); (try clear hk); (try clear hi)))
  go_meet
  case rel => exact ⟨_, (!t201), rs_, H', ⟨by first | omega | exact Nat.le_refl _⟩, ⟨bl_ HB.out⟩⟩
 case rest =>
  clear HC3
  try clear c1
  try clear p2
  try clear c5
  obtain ⟨kq, x17_2, rfl, HA, HJ2, HB⟩ := hcut
  cases kq with
  | zero => exact absurd HA.out (by simp [spec_MergeTables.j0])
  | succ kj2 =>
   have H := HA.out
   clear HA
   simp only [spec_MergeTables.j0] at H
   by_cases c10 : x17_2 = true
   case pos =>
    subst c10
    rw [if_pos rfl] at H
    simp only [Option.some.injEq, Prod.mk.injEq] at H
    obtain ⟨rfl, rfl⟩ := H
    go_wp2
    go_ret2
    exact ⟨_, re_, by first | exact Kd.R_nil _ _ _ _ _ | exact Kd.N_nil _ _ _ _ _ | exact Kd.V_nil _ _ _ _ _ | exact Kd.Q_nil _ _ _ _ _ | exact Kd.S_nil _ _ _ _ _, bl_ HB.out⟩
   replace c10 := Bool.eq_false_iff.mpr c10
   subst c10
   rw [if_neg (show ¬ (false = true) by decide)] at H
   obtain ⟨y202, hy202⟩ : ∃ y_ : List (S81), y_ = (([] : List (S81))) := ⟨_, rfl⟩
   replace H : (if y202.length + l0.length < 5864062014805 then (spec_MergeTables.l0 kj2 l0 l1 (y202 ++ l0) 0) else (none)) = some (r1, r2) := by first | (rw [hy202]; with_reducible exact H) | (have H2_ := (Option.bind_some _ _).symm.trans H; rw [hy202]; with_reducible exact H2_) | (have H2_ := (Option.bind_some _ _).symm.trans H; with_reducible exact H2_) | with_reducible exact H | (rw [hy202]; exact H) | exact H
   have Ny202 := Aside0.mk hy202
   clear hy202
   by_cases c11 : y202.length + l0.length < 5864062014805
   case neg =>
    rw [if_neg c11] at H
    exact absurd H (by simp)


   rw [if_pos c11] at H
   have LMc11 := Aside0.mk c11
   clear c11
   obtain ⟨y205, hy205⟩ : ∃ y_ : List (S81), y_ = (y202 ++ l0) := ⟨_, rfl⟩
   replace H : (spec_MergeTables.l0 kj2 l0 l1 y205 0) = some (r1, r2) := by first | (rw [hy205]; with_reducible exact H) | (have H2_ := (Option.bind_some _ _).symm.trans H; rw [hy205]; with_reducible exact H2_) | (have H2_ := (Option.bind_some _ _).symm.trans H; with_reducible exact H2_) | with_reducible exact H | (rw [hy205]; exact H) | exact H
   have Ny205 := Aside0.mk hy205
   clear hy205
   have H' := Aside0.mk H
   clear H
   go_wp2_with (first | ((with_reducible refine gate_dst (N := 18) rfl ?_); refine Kd.R_lit k81 _ 81 ?hg (N := 18) ?hd (xs := ([] : List (S81))) (inner := []) (ok := fun _ => True) (okp := fun _ => True) ?hr ?hp (fun _ hk => hk) trivial (Below.refl _ _) (Nat.le_refl _) (by simp) ?_; (case hd => rfl); (case hg => rfl); (case hr => first | (go_simp; done) | (go_simp; rfl)); (case hp => exact (Reps.none _ _)); intro v203 w12 ho13 hb hg_ hnew_; clear hg_ hnew_; (first | rw [← Ny202.out] at ho13 | (simp only [Int.reduceToNat] at ho13; rw [← Ny202.out] at ho13)); have HO204 := Aside0.mk (Kd.R_lower ho13 (below_size (bl_ HB.out))); replace HB := Aside0.mk (below_step (bl_ HB.out) hb); clear hb ho13) | ((with_reducible refine gate_builtin (b := .append) (xs := #[.tmp 18, .tmp 19]) rfl ?_); at_builtin; refine Kd.R_append_rows k81 (w0 := w) w.heap.size rfl (.tmp 18) (.tmp 19) 29 81 (.agg #[(.int .i64 0), (.int .i64 0), (.int .i64 0)]) 24 rfl Try.underlying29 info81 rfl (by decide) (by omega) v203 y202 l0 _ _ _ (fun _ => True) (fun _ => False) rfl rfl ?aO ?aR (fun _ _ h => h) (fun _ h => h.elim) ?aF ?aB ?aS ?aL ?_; (case aR => exact r7_ HR0.out HB.out); (case aB => exact (bl_ HB.out)); (case aF => exact (fun _ _ => trivial)); (case aO => exact (rk_ HO204.out)); (case aS => exact (below_size (bl_ HB.out))); (case aL => have := LMc11.out; omega); intro v206 w14 ho hb hg hat; rw [← Ny205.out] at ho; have n0_ := Aside0.mk (hb); have n1_ := Aside0.mk (ho); clear HB; clear HO204; have HB := n0_; have HO207 := n1_; clear n0_ n1_; clear ho hb hg hat))
   go_loopg [6, 7] kj2 (fun kq v6 v7 w' => ∃ (x6_2 : List (S81)) (x7_2 : Int), v7 = .int .i64 x7_2 ∧ Aside0 (spec_MergeTables.l0 kq l0 l1 x6_2 x7_2 = some (r1, r2)) ∧ Aside0 (kq ≤ kj2) ∧ Aside0 (Kd.R k81 81 w' w.heap.size (fun _ => True) v6 x6_2) ∧ Aside0 (Below w.heap.size w w'))
   case atStart => exact ⟨(y205), (0), rs_, H', ⟨Nat.le_refl _⟩, ⟨rk_ HO207.out⟩, ⟨bl_ HB.out⟩⟩
   case round =>
    clear H'
    try clear c1
    try clear p2
    try clear c5
    try clear c10
    try clear c11
    try clear c14
    try clear p2
    obtain ⟨x6_2, x7_2, rfl, HA, HK2, HO_6, HB⟩ := hrel
    cases gk with
    | zero => exact absurd HA.out (by simp [spec_MergeTables.l0])
    | succ k2 =>
     have H := HA.out
     clear HA
     simp only [spec_MergeTables.l0] at H
     by_cases c15 : x7_2 < (l1.length : Int)
     case neg =>
      rw [if_neg c15] at H
      have c15b0 := decide_eq_false c15
      clear c15
      by_cases c105 : (x6_2.length : Int) > 12
      case pos =>
       rw [if_pos c105] at H
       have c105b0 : decide (12 < (x6_2.length : Int)) = true := decide_eq_true c105
       have c105b1 : decide (12 < x6_2.length) = true := decide_eq_true (by omega)
       clear c105
       simp only [Option.some.injEq, Prod.mk.injEq] at H
       obtain ⟨rfl, rfl⟩ := H
       obtain ⟨Ao106, co106, eo106⟩ := Kd.R_slice HO_6.out
       subst eo106
       go_wp2
       go_ret2
       exact ⟨_, re_, by first | exact Kd.R_nil _ _ _ _ _ | exact Kd.N_nil _ _ _ _ _ | exact Kd.V_nil _ _ _ _ _ | exact Kd.Q_nil _ _ _ _ _ | exact Kd.S_nil _ _ _ _ _, bl_ HB.out⟩
      rw [if_neg c105] at H
      have c105b0 : decide (12 < (x6_2.length : Int)) = false := decide_eq_false c105
      have c105b1 : decide (12 < x6_2.length) = false := decide_eq_false (by omega)
      clear c105
      have H' := Aside0.mk H
      clear H
      obtain ⟨Ao107, co107, eo107⟩ := Kd.R_slice HO_6.out
      subst eo107
      go_wp2
      go_loopg [9] k2 (fun kq v9 w' => ∃ (x6_3 : List (S81)) (x9_3 : Int), v9 = .int .i64 x9_3 ∧ Aside0 (spec_MergeTables.l2 kq x6_3 x9_3 = some (r1, r2)) ∧ Aside0 (kq ≤ k2) ∧ Aside0 (Kd.R k81 81 w' w.heap.size (fun _ => True) (.slice Ao107 x6_2.length co107) x6_3) ∧ Aside0 (Below w.heap.size w w'))
      case atStart => exact ⟨(x6_2), (1), rs_, H', ⟨Nat.le_refl _⟩, ⟨rk_ HO_6.out⟩, ⟨bl_ HB.out⟩⟩
      case round =>
       clear H'
       try clear c1
       try clear p2
       try clear q2
       try clear hx2
       try clear c3
       try clear p6
       try clear c8
       try clear c9
       try clear q9
       try clear c10
       try clear c15
       try clear c15b0
       try clear p27
       try clear q27
       try clear hx27
       try clear p64
       try clear c81
       try clear c82
       try clear c83
       try clear c84
       try clear c85
       try clear c86
       try clear c89
       try clear q94
       try clear c95
       try clear q95
       try clear c105
       try clear c105b0
       try clear c105b1
       try clear hx276_0
       try clear hx276_1
       try clear hx276_2
       try clear p276
       try clear q095
       try clear q276
       try clear q94
       try clear q95
       obtain ⟨x6_3, x9_3, rfl, HA, HK3, HO_6, HB⟩ := hrel
       have hl6_3 := (Kd.R_reads' HO_6.out).1
       rw [hl6_3] at HO_6
       (try simp only [hl6_3])
       cases gk with
       | zero => exact absurd HA.out (by simp [spec_MergeTables.l2])
       | succ k3 =>
        have H := HA.out
        clear HA
        simp only [spec_MergeTables.l2] at H
        by_cases c108 : x9_3 < (x6_3.length : Int)
        case neg =>
         rw [if_neg c108] at H
         have c108b0 := decide_eq_false c108
         clear c108
         simp only [Option.some.injEq, Prod.mk.injEq] at H
         obtain ⟨rfl, rfl⟩ := H
         go_wp2
         go_ret2
         exact ⟨_, re_, rk_ HO_6.out, bl_ HB.out⟩
        rw [if_pos c108] at H
        have c108b0 := decide_eq_true c108
        clear c108
        obtain ⟨ji109, hji109⟩ : ∃ j_ : Int, (wrap64 (x9_3 - 1)) = j_ := ⟨_, rfl⟩
        replace H : (if 0 ≤ (ji109) then (if (ji109) < (x6_3.length : Int) then (if 0 ≤ x9_3 then (if ((rd_T81 x6_3 (ji109)).f0) = ((rd_T81 x6_3 x9_3).f0) then (spec_MergeTables.l2 k3 (x6_3.set (x9_3 : Int).toNat (⟨(rd_T81 x6_3 x9_3).f0, (rd_T81 x6_3 x9_3).f1, mx ((rd_T81 x6_3 x9_3).f2) ((rd_T81 x6_3 (ji109)).f2)⟩ : S81)) (wrap64 (x9_3 + 1))) else (spec_MergeTables.l2 k3 x6_3 (wrap64 (x9_3 + 1)))) else (none)) else (none)) else (none)) = some (r1, r2) := by first | (rw [hji109] at H; exact H) | (simp only [hji109] at H ⊢; exact H)
        have hji109w : (IntKind.i64.wrap (x9_3 - 1)) = ji109 := (i64_w _).trans hji109
        by_cases c110 : 0 ≤ (ji109)
        case neg =>
         rw [if_neg c110] at H
         exact absurd H (by simp)
        rw [if_pos c110] at H
        have c110b0 := decide_eq_true c110
        clear c110
        by_cases c111 : (ji109) < (x6_3.length : Int)
        case neg =>
         rw [if_neg c111] at H
         exact absurd H (by simp)
        rw [if_pos c111] at H
        have c111b0 := decide_eq_true c111
        clear c111
        by_cases c112 : 0 ≤ x9_3
        case neg =>
         rw [if_neg c112] at H
         exact absurd H (by simp)
        rw [if_pos c112] at H
        have c112b0 := decide_eq_true c112
        clear c112
        by_cases c113 : ((rd_T81 x6_3 (ji109)).f0) = ((rd_T81 x6_3 x9_3).f0)
        case neg =>
         rw [if_neg c113] at H
         have c113b0 := beq_eq_false_iff_ne.mpr c113
         have c113b1 := bne_iff_ne.mpr c113
         have H' := Aside0.mk H
         clear H
         try go_wp2
         replace HO_6 := Aside0.mk (Kd.R_drew HO_6.out)
         replace HB := Aside0.mk (below_drew1 HB.out)
         have p290 : 0 ≤ ((ji109) : Int) := od_
         have q290 : (ji109) < (x6_3.length : Int) := od_
         obtain ⟨ad290, e290, hx290_0, hx290_1, hx290_2⟩ := at_T81 (Kd.R_reads' HO_6.out).2.2 (ji109) p290 q290
         cases e290
         replace p290 := eq_true p290
         replace q290 := eq_true q290
         have p291 : 0 ≤ (x9_3 : Int) := od_
         have q291 : x9_3 < (x6_3.length : Int) := od_
         obtain ⟨ad291, e291, hx291_0, hx291_1, hx291_2⟩ := at_T81 (Kd.R_reads' HO_6.out).2.2 x9_3 p291 q291
         obtain rfl : ad290 = ad291 := (by injection e291)
         replace p291 := eq_true p291
         replace q291 := eq_true q291
         refine start_ (n := 12) (S := fun w' => w'.cell? (ad290.add (((ji109)).toNat * 3)) = some (.int .i64 ((rd_T81 x6_3 (ji109)).f0)) ∧ w'.cell? ⟨(ad290.add (((ji109)).toNat * 3)).block, (ad290.add (((ji109)).toNat * 3)).off + 1, none⟩ = some (.int .i64 ((rd_T81 x6_3 (ji109)).f1)) ∧ w'.cell? ⟨(ad290.add (((ji109)).toNat * 3)).block, (ad290.add (((ji109)).toNat * 3)).off + 2, none⟩ = some (.int .i64 ((rd_T81 x6_3 (ji109)).f2)) ∧ w'.cell? (ad290.add ((x9_3).toNat * 3)) = some (.int .i64 ((rd_T81 x6_3 x9_3).f0)) ∧ w'.cell? ⟨(ad290.add ((x9_3).toNat * 3)).block, (ad290.add ((x9_3).toNat * 3)).off + 1, none⟩ = some (.int .i64 ((rd_T81 x6_3 x9_3).f1)) ∧ w'.cell? ⟨(ad290.add ((x9_3).toNat * 3)).block, (ad290.add ((x9_3).toNat * 3)).off + 2, none⟩ = some (.int .i64 ((rd_T81 x6_3 x9_3).f2))) (ds := []) #[f_,f_,f_,f_,f_,f_,f_,f_,f_,f_,f_,f_] (by kernel_rfl) rfl rfl ⟨hx290_0, hx290_1, hx290_2, hx291_0, hx291_1, hx291_2⟩ (fun hHeld => ?_); refine with_tabW spec_MergeTables.tab18 spec_MergeTables.bits18 (fun HT_ HW_ => ?_)
         generalize wr.drew = w119 at HO_6 HB hx290_0 hx290_1 hx290_2 hx291_0 hx291_1 hx291_2 hHeld ⊢
         refine pv_ 0 113 HT_.out ?_
         refine pv_ 1 114 HT_.out ?_
         refine pv_ 2 115 HT_.out ?_
         refine pv_ 3 116 HT_.out ?_
         refine pv_ 4 117 HT_.out ?_
         refine pv_ 6 119 HT_.out ?_
         refine pv_ 7 120 HT_.out ?_
         refine pv_ 8 121 HT_.out ?_
         refine pv_ 9 122 HT_.out ?_
         refine tv6_ 5 118 HT_.out HW_.out hHeld ?_
         refine tv6_ 10 123 HT_.out HW_.out hHeld ?_
         refine pu_ 11 124 #[t_,t_,t_,t_,t_,t_,t_,t_,t_,t_,t_,t_] HT_.out ?_
         refine done_ (done_of HT_.out (by kernel_rfl)) ?_
         try go_wp2
         (try simp only [← hl6_3])
         go_roundg k3
         case measure => have := HJ2.out; have := HK2.out; have := HK3.out; omega
         case rel => exact ⟨(x6_3), (wrap64 (x9_3 + 1)), rs_, H', ⟨by have := HJ2.out; have := HK2.out; have := HK3.out; omega⟩, ⟨by (try simp only [hl6_3]); (with_reducible repeat (first | apply Kd.R_alloc | apply Kd.R_drewN | apply Kd.R_drew)); exact HO_6.out⟩, ⟨bl_ HB.out⟩⟩
        rw [if_pos c113] at H
        have c113b0 := beq_iff_eq.mpr c113
        have c113b1 := bne_eq_false_iff_eq.mpr c113
        clear c113
        obtain ⟨ji114, hji114⟩ : ∃ j_ : Int, (mx ((rd_T81 x6_3 x9_3).f2) ((rd_T81 x6_3 (ji109)).f2)) = j_ := ⟨_, rfl⟩
        replace H : (spec_MergeTables.l2 k3 (x6_3.set (x9_3 : Int).toNat (⟨(rd_T81 x6_3 x9_3).f0, (rd_T81 x6_3 x9_3).f1, ji114⟩ : S81)) (wrap64 (x9_3 + 1))) = some (r1, r2) := by first | (rw [hji114] at H; exact H) | (simp only [hji114] at H ⊢; exact H)
        have hji114_ : (if ((rd_T81 x6_3 x9_3).f2) < ((rd_T81 x6_3 (ji109)).f2) then ((rd_T81 x6_3 (ji109)).f2) else ((rd_T81 x6_3 x9_3).f2)) = ji114 := hji114
        obtain ⟨y294, hy294⟩ : ∃ y_ : List (S81), y_ = (x6_3.set (x9_3 : Int).toNat (⟨(rd_T81 x6_3 x9_3).f0, (rd_T81 x6_3 x9_3).f1, ji114⟩ : S81)) := ⟨_, rfl⟩
        replace H : (spec_MergeTables.l2 k3 y294 (wrap64 (x9_3 + 1))) = some (r1, r2) := by first | (rw [hy294]; with_reducible exact H) | (have H2_ := (Option.bind_some _ _).symm.trans H; rw [hy294]; with_reducible exact H2_) | (have H2_ := (Option.bind_some _ _).symm.trans H; with_reducible exact H2_) | with_reducible exact H | (rw [hy294]; exact H) | exact H
        have Ny294 := Aside0.mk hy294
        clear hy294
        have H' := Aside0.mk H
        clear H
        try go_wp2
        replace HO_6 := Aside0.mk (Kd.R_drew HO_6.out)
        replace HB := Aside0.mk (below_drew1 HB.out)
        have p290 : 0 ≤ ((ji109) : Int) := od_
        have q290 : (ji109) < (x6_3.length : Int) := od_
        obtain ⟨ad290, e290, hx290_0, hx290_1, hx290_2⟩ := at_T81 (Kd.R_reads' HO_6.out).2.2 (ji109) p290 q290
        cases e290
        replace p290 := eq_true p290
        replace q290 := eq_true q290
        have p291 : 0 ≤ (x9_3 : Int) := od_
        have q291 : x9_3 < (x6_3.length : Int) := od_
        obtain ⟨ad291, e291, hx291_0, hx291_1, hx291_2⟩ := at_T81 (Kd.R_reads' HO_6.out).2.2 x9_3 p291 q291
        obtain rfl : ad290 = ad291 := (by injection e291)
        replace p291 := eq_true p291
        replace q291 := eq_true q291
        refine start_ (n := 12) (S := fun w' => w'.cell? (ad290.add (((ji109)).toNat * 3)) = some (.int .i64 ((rd_T81 x6_3 (ji109)).f0)) ∧ w'.cell? ⟨(ad290.add (((ji109)).toNat * 3)).block, (ad290.add (((ji109)).toNat * 3)).off + 1, none⟩ = some (.int .i64 ((rd_T81 x6_3 (ji109)).f1)) ∧ w'.cell? ⟨(ad290.add (((ji109)).toNat * 3)).block, (ad290.add (((ji109)).toNat * 3)).off + 2, none⟩ = some (.int .i64 ((rd_T81 x6_3 (ji109)).f2)) ∧ w'.cell? (ad290.add ((x9_3).toNat * 3)) = some (.int .i64 ((rd_T81 x6_3 x9_3).f0)) ∧ w'.cell? ⟨(ad290.add ((x9_3).toNat * 3)).block, (ad290.add ((x9_3).toNat * 3)).off + 1, none⟩ = some (.int .i64 ((rd_T81 x6_3 x9_3).f1)) ∧ w'.cell? ⟨(ad290.add ((x9_3).toNat * 3)).block, (ad290.add ((x9_3).toNat * 3)).off + 2, none⟩ = some (.int .i64 ((rd_T81 x6_3 x9_3).f2))) (ds := []) #[f_,f_,f_,f_,f_,f_,f_,f_,f_,f_,f_,f_] (by kernel_rfl) rfl rfl ⟨hx290_0, hx290_1, hx290_2, hx291_0, hx291_1, hx291_2⟩ (fun hHeld => ?_); refine with_tabW spec_MergeTables.tab18 spec_MergeTables.bits18 (fun HT_ HW_ => ?_)
        generalize wr.drew = w116 at HO_6 HB hx290_0 hx290_1 hx290_2 hx291_0 hx291_1 hx291_2 hHeld ⊢
        refine pv_ 0 113 HT_.out ?_
        refine pv_ 1 114 HT_.out ?_
        refine pv_ 2 115 HT_.out ?_
        refine pv_ 3 116 HT_.out ?_
        refine pv_ 4 117 HT_.out ?_
        refine pv_ 6 119 HT_.out ?_
        refine pv_ 7 120 HT_.out ?_
        refine pv_ 8 121 HT_.out ?_
        refine pv_ 9 122 HT_.out ?_
        refine tv6_ 5 118 HT_.out HW_.out hHeld ?_
        refine tv6_ 10 123 HT_.out HW_.out hHeld ?_
        refine pu_ 11 124 #[t_,t_,t_,t_,t_,t_,t_,t_,t_,t_,t_,t_] HT_.out ?_
        refine done_ (done_of HT_.out (by kernel_rfl)) ?_
        try go_wp2
        replace HO_6 := Aside0.mk (Kd.R_drew HO_6.out)
        replace HB := Aside0.mk (below_drew1 HB.out)
        have p292 : 0 ≤ (x9_3 : Int) := od_
        have q292 : x9_3 < (x6_3.length : Int) := od_
        obtain ⟨ad292, e292, hx292_0, hx292_1, hx292_2⟩ := at_T81 (Kd.R_reads' HO_6.out).2.2 x9_3 p292 q292
        obtain rfl : ad290 = ad292 := (by injection e292)
        replace p292 := eq_true p292
        replace q292 := eq_true q292
        have p293 : 0 ≤ ((ji109) : Int) := od_
        have q293 : (ji109) < (x6_3.length : Int) := od_
        obtain ⟨ad293, e293, hx293_0, hx293_1, hx293_2⟩ := at_T81 (Kd.R_reads' HO_6.out).2.2 (ji109) p293 q293
        obtain rfl : ad290 = ad293 := (by injection e293)
        replace p293 := eq_true p293
        replace q293 := eq_true q293
        have p115 : 0 ≤ (x9_3 : Int) := od_
        have q115 : (x9_3 : Int) < ((x6_3.length : Int) : Int) := od_
        obtain ⟨go115, co115, eo115, gb115, gl115, cl115, HG115⟩ := Kd.R_form HO_6.out (by omega)
        (first | cases eo115 | (injection eo115 with ea_ en_ ec_; (first | subst ea_ | (injection ea_ with ea_; subst ea_)); subst ec_; clear en_))
        have GB115 := Aside0.mk gb115
        have GG115 := Aside0.mk HG115
        clear gb115 gl115 HG115
        (first | simp only [add_plain] at hx290_0 | skip)
        (first | simp only [add_plain] at hx290_1 | skip)
        (first | simp only [add_plain] at hx290_2 | skip)
        (first | simp only [add_plain] at hx291_0 | skip)
        (first | simp only [add_plain] at hx291_1 | skip)
        (first | simp only [add_plain] at hx291_2 | skip)
        (first | simp only [add_plain] at hx292_0 | skip)
        (first | simp only [add_plain] at hx292_1 | skip)
        (first | simp only [add_plain] at hx292_2 | skip)
        (first | simp only [add_plain] at hx293_0 | skip)
        (first | simp only [add_plain] at hx293_1 | skip)
        (first | simp only [add_plain] at hx293_2 | skip)
        obtain ⟨ce115, hcl115, hM115, hcc115, hfr115⟩ := Kd.R_elem HO_6.out z81 (x9_3 : Int) p115 q115
        obtain rfl := k81_openM hM115
        have hx115_0 : World.cell? _ ⟨go115, (x9_3 : Int).toNat * 3, none⟩ = some (.int .i64 ((rd_T81 x6_3 x9_3).f0)) := hcc115 0 _ rfl
        have hx115_1 : World.cell? _ ⟨go115, (x9_3 : Int).toNat * 3 + 1, none⟩ = some (.int .i64 ((rd_T81 x6_3 x9_3).f1)) := hcc115 1 _ rfl
        have hx115_2 : World.cell? _ ⟨go115, (x9_3 : Int).toNat * 3 + 2, none⟩ = some (.int .i64 ((rd_T81 x6_3 x9_3).f2)) := hcc115 2 _ rfl
        have hf115_0 : World.frozen? _ ⟨go115, (x9_3 : Int).toNat * 3, none⟩ = false := hfr115 0
        have hf115_1 : World.frozen? _ ⟨go115, (x9_3 : Int).toNat * 3 + 1, none⟩ = false := hfr115 1
        have hf115_2 : World.frozen? _ ⟨go115, (x9_3 : Int).toNat * 3 + 2, none⟩ = false := hfr115 2
        clear hcl115 hcc115 hfr115 hM115
        replace p115 := eq_true p115
        replace q115 := eq_true q115
        obtain ⟨ce118, hcl118, hM118, hcc118, hfr118⟩ := Kd.R_elem HO_6.out z81 (x9_3 : Int) od_ (by have h_ : (x9_3 : Int) < ((x6_3.length : Int) : Int) := od_; first | exact h_ | (have e_ := (Kd.R_reads' HO_6.out).1; omega) | simpa using h_)
        obtain rfl := k81_openM hM118
        have HP118 := (Kd.R_seg HO_6.out (x9_3 : Int) od_ (by have h_ : (x9_3 : Int) < ((x6_3.length : Int) : Int) := od_; first | exact h_ | (have e_ := (Kd.R_reads' HO_6.out).1; omega) | simpa using h_) (seg := [.int .i64 ji114]) (j := 2) hcl118 hcc118 (show 3 ≤ 3 from by decide) (x' := (⟨(rd_T81 x6_3 x9_3).f0, (rd_T81 x6_3 x9_3).f1, ji114⟩ : S81)) (k81_mkM _ _ _ (⟨(rd_T81 x6_3 x9_3).f0, (rd_T81 x6_3 x9_3).f1, ji114⟩ : S81) ) (fun _ hk => hk)).1
        rw [← Ny294.out] at HP118
        have HQ118 := Aside0.mk HP118
        clear hcl118 hcc118 hfr118 hM118 HP118
        refine start_ (n := 17) (S := fun w' => w'.cell? ⟨go115, ((x9_3).toNat * 3), none⟩ = some (.int .i64 ((rd_T81 x6_3 x9_3).f0)) ∧ w'.cell? ⟨go115, ((x9_3).toNat * 3) + 1, none⟩ = some (.int .i64 ((rd_T81 x6_3 x9_3).f1)) ∧ w'.cell? ⟨go115, ((x9_3).toNat * 3) + 2, none⟩ = some (.int .i64 ((rd_T81 x6_3 x9_3).f2)) ∧ w'.cell? ⟨go115, ((ji109)).toNat * 3, none⟩ = some (.int .i64 ((rd_T81 x6_3 (ji109)).f0)) ∧ w'.cell? ⟨go115, ((ji109)).toNat * 3 + 1, none⟩ = some (.int .i64 ((rd_T81 x6_3 (ji109)).f1)) ∧ w'.cell? ⟨go115, ((ji109)).toNat * 3 + 2, none⟩ = some (.int .i64 ((rd_T81 x6_3 (ji109)).f2))) (ds := [16]) #[f_,f_,f_,f_,f_,f_,f_,f_,f_,f_,f_,f_,f_,f_,f_,f_,f_] (by kernel_rfl) rfl rfl ⟨hx292_0, hx292_1, hx292_2, hx293_0, hx293_1, hx293_2⟩ (fun hHeld => ?_); refine with_tabW spec_MergeTables.tab19 spec_MergeTables.bits19 (fun HT_ HW_ => ?_)
        generalize w116.drew = w117 at HO_6 HB GG115 HQ118 hf115_0 hf115_1 hf115_2 hx115_0 hx115_1 hx115_2 hx290_0 hx290_1 hx290_2 hx291_0 hx291_1 hx291_2 hx292_0 hx292_1 hx292_2 hx293_0 hx293_1 hx293_2 hHeld ⊢
        refine pv_ 0 125 HT_.out ?_
        refine pv_ 1 126 HT_.out ?_
        refine pv_ 2 127 HT_.out ?_
        refine pv_ 3 128 HT_.out ?_
        refine pv_ 4 129 HT_.out ?_
        refine pv_ 5 130 HT_.out ?_
        refine pv_ 7 132 HT_.out ?_
        refine pv_ 8 133 HT_.out ?_
        refine pv_ 9 134 HT_.out ?_
        refine pv_ 10 135 HT_.out ?_
        refine pv_ 11 136 HT_.out ?_
        refine tv6_ 6 131 HT_.out HW_.out hHeld ?_
        refine tv6_ 12 137 HT_.out HW_.out hHeld ?_
        refine pv_ 13 138 HT_.out ?_
        refine pv_ 14 139 HT_.out ?_
        refine pu_ 15 140 #[t_,t_,t_,t_,t_,t_,t_,t_,t_,t_,t_,t_,t_,t_,t_,t_,f_] HT_.out ?_
        refine last_ (i := 16) (N := none) #[t_,t_,t_,t_,t_,t_,t_,t_,t_,t_,t_,t_,t_,t_,t_,t_,t_] rfl rfl (one_of HT_.out (by kernel_rfl)) (by decide) (fun K hK => ?_)
        refine skip_ (w1 := ?_) (by rfl) rfl ?_ ?_
        rotate_left
        ·go_simp
         rfl
        refine hK.out _ _ ?_
        clear hK K
        refine done_ (done_of HT_.out (by kernel_rfl)) ?_
        try go_wp2
        (try simp only [← hl6_3])
        go_roundg k3
        case measure => have := HJ2.out; have := HK2.out; have := HK3.out; omega
        case rel => exact ⟨(y294), (wrap64 (x9_3 + 1)), rs_, H', ⟨by have := HJ2.out; have := HK2.out; have := HK3.out; omega⟩, ⟨by (try simp only [hl6_3]); (with_reducible repeat (first | apply Kd.R_alloc | apply Kd.R_drewN | apply Kd.R_drew)); exact HQ118.out⟩, ⟨r3_ HB.out GB115.out⟩⟩
     rw [if_pos c15] at H
     have c15b0 := decide_eq_true c15
     clear c15
     have H' := Aside0.mk H
     clear H
     go_wp2
     go_loopg [8] k2 (fun kq v8 w' => ∃ (x8_3 : Int), v8 = .int .i64 x8_3 ∧ Aside0 (spec_MergeTables.l1 kq l0 l1 x6_2 x7_2 x8_3 = some (r1, r2)) ∧ Aside0 (kq ≤ k2) ∧ Aside0 (Kd.R k81 81 w' w.heap.size (fun _ => True) u6 x6_2) ∧ Aside0 (Below w.heap.size w w'))
     case atStart => exact ⟨(0), rs_, H', ⟨Nat.le_refl _⟩, ⟨rk_ HO_6.out⟩, ⟨bl_ HB.out⟩⟩
     case round =>
      clear H'
      try clear c1
      try clear p2
      try clear c5
      try clear c10
      try clear c11
      try clear c14
      try clear c15
      try clear c15b0
      try clear p2
      obtain ⟨x8_3, rfl, HA, HK3, HO_6, HB⟩ := hrel
      cases gk with
      | zero => exact absurd HA.out (by simp [spec_MergeTables.l1])
      | succ k3 =>
       have H := HA.out
       clear HA
       simp only [spec_MergeTables.l1] at H
       by_cases c16 : x8_3 < (x6_2.length : Int)
       case neg =>
        rw [if_neg c16] at H
        have c16b0 := decide_eq_false c16
        clear c16
        obtain ⟨y266, hy266⟩ : ∃ y_ : List (S81), y_ = (([] : List (S81))) := ⟨_, rfl⟩
        replace H : (if 0 ≤ x8_3 then (if x8_3 ≤ (x6_2.length : Int) then ((some (x6_2.take (x8_3 : Int).toNat : List (S81))).bind fun y269 => (if y266.length + y269.length < 5864062014805 then ((some (y266 ++ y269 : List (S81))).bind fun y273 => (if 0 ≤ x7_2 then (if x7_2 < (l1.length : Int) then ((some (([(⟨(rd_T81 l1 x7_2).f0, (rd_T81 l1 x7_2).f1, (rd_T81 l1 x7_2).f2⟩ : S81)] : List (S81)) : List (S81))).bind fun y277 => (if y273.length + y277.length < 5864062014805 then ((some (y273 ++ y277 : List (S81))).bind fun y280 => ((some (x6_2.drop (x8_3 : Int).toNat : List (S81))).bind fun y283 => (if y280.length + y283.length < 5864062014805 then (spec_MergeTables.l0 k3 l0 l1 (y280 ++ y283) (wrap64 (x7_2 + 1))) else (none)))) else (none))) else (none)) else (none))) else (none))) else (none)) else (none)) = some (r1, r2) := by first | (rw [hy266]; with_reducible exact H) | (have H2_ := (Option.bind_some _ _).symm.trans H; rw [hy266]; with_reducible exact H2_) | (have H2_ := (Option.bind_some _ _).symm.trans H; with_reducible exact H2_) | with_reducible exact H | (rw [hy266]; exact H) | exact H
        have Ny266 := Aside0.mk hy266
        clear hy266
        by_cases c81 : 0 ≤ x8_3
        case neg =>
         rw [if_neg c81] at H
         exact absurd H (by simp)
        rw [if_pos c81] at H
        have c81b0 := eq_true c81
        have c81b1 := decide_eq_true c81
        clear c81
        by_cases c82 : x8_3 ≤ (x6_2.length : Int)
        case neg =>
         rw [if_neg c82] at H
         exact absurd H (by simp)
        rw [if_pos c82] at H
        have c82b0 := eq_true c82
        have c82b1 := decide_eq_true c82
        clear c82
        obtain ⟨y269, hy269⟩ : ∃ y_ : List (S81), y_ = (x6_2.take (x8_3 : Int).toNat) := ⟨_, rfl⟩
        replace H : (if y266.length + y269.length < 5864062014805 then ((some (y266 ++ y269 : List (S81))).bind fun y273 => (if 0 ≤ x7_2 then (if x7_2 < (l1.length : Int) then ((some (([(⟨(rd_T81 l1 x7_2).f0, (rd_T81 l1 x7_2).f1, (rd_T81 l1 x7_2).f2⟩ : S81)] : List (S81)) : List (S81))).bind fun y277 => (if y273.length + y277.length < 5864062014805 then ((some (y273 ++ y277 : List (S81))).bind fun y280 => ((some (x6_2.drop (x8_3 : Int).toNat : List (S81))).bind fun y283 => (if y280.length + y283.length < 5864062014805 then (spec_MergeTables.l0 k3 l0 l1 (y280 ++ y283) (wrap64 (x7_2 + 1))) else (none)))) else (none))) else (none)) else (none))) else (none)) = some (r1, r2) := by first | (rw [hy269]; with_reducible exact H) | (have H2_ := (Option.bind_some _ _).symm.trans H; rw [hy269]; with_reducible exact H2_) | (have H2_ := (Option.bind_some _ _).symm.trans H; with_reducible exact H2_) | with_reducible exact H | (rw [hy269]; exact H) | exact H
        have Ny269 := Aside0.mk hy269
        clear hy269
        by_cases c83 : y266.length + y269.length < 5864062014805
        case neg =>
         rw [if_neg c83] at H
         exact absurd H (by simp)
        rw [if_pos c83] at H
        have LMc83 := Aside0.mk c83
        clear c83
        obtain ⟨y273, hy273⟩ : ∃ y_ : List (S81), y_ = (y266 ++ y269) := ⟨_, rfl⟩
        replace H : (if 0 ≤ x7_2 then (if x7_2 < (l1.length : Int) then ((some (([(⟨(rd_T81 l1 x7_2).f0, (rd_T81 l1 x7_2).f1, (rd_T81 l1 x7_2).f2⟩ : S81)] : List (S81)) : List (S81))).bind fun y277 => (if y273.length + y277.length < 5864062014805 then ((some (y273 ++ y277 : List (S81))).bind fun y280 => ((some (x6_2.drop (x8_3 : Int).toNat : List (S81))).bind fun y283 => (if y280.length + y283.length < 5864062014805 then (spec_MergeTables.l0 k3 l0 l1 (y280 ++ y283) (wrap64 (x7_2 + 1))) else (none)))) else (none))) else (none)) else (none)) = some (r1, r2) := by first | (rw [hy273]; with_reducible exact H) | (have H2_ := (Option.bind_some _ _).symm.trans H; rw [hy273]; with_reducible exact H2_) | (have H2_ := (Option.bind_some _ _).symm.trans H; with_reducible exact H2_) | with_reducible exact H | (rw [hy273]; exact H) | exact H
        have Ny273 := Aside0.mk hy273
        clear hy273
        by_cases c84 : 0 ≤ x7_2
        case neg =>
         rw [if_neg c84] at H
         exact absurd H (by simp)
        rw [if_pos c84] at H
        have c84b0 := decide_eq_true c84
        clear c84
        by_cases c85 : x7_2 < (l1.length : Int)
        case neg =>
         rw [if_neg c85] at H
         exact absurd H (by simp)
        rw [if_pos c85] at H
        have c85b0 := decide_eq_true c85
        clear c85
        obtain ⟨y277, hy277⟩ : ∃ y_ : List (S81), y_ = (([(⟨(rd_T81 l1 x7_2).f0, (rd_T81 l1 x7_2).f1, (rd_T81 l1 x7_2).f2⟩ : S81)] : List (S81))) := ⟨_, rfl⟩
        replace H : (if y273.length + y277.length < 5864062014805 then ((some (y273 ++ y277 : List (S81))).bind fun y280 => ((some (x6_2.drop (x8_3 : Int).toNat : List (S81))).bind fun y283 => (if y280.length + y283.length < 5864062014805 then (spec_MergeTables.l0 k3 l0 l1 (y280 ++ y283) (wrap64 (x7_2 + 1))) else (none)))) else (none)) = some (r1, r2) := by first | (rw [hy277]; with_reducible exact H) | (have H2_ := (Option.bind_some _ _).symm.trans H; rw [hy277]; with_reducible exact H2_) | (have H2_ := (Option.bind_some _ _).symm.trans H; with_reducible exact H2_) | with_reducible exact H | (rw [hy277]; exact H) | exact H
        have Ny277 := Aside0.mk hy277
        clear hy277
        by_cases c86 : y273.length + y277.length < 5864062014805
        case neg =>
         rw [if_neg c86] at H
         exact absurd H (by simp)
        rw [if_pos c86] at H
        have LMc86 := Aside0.mk c86
        clear c86
        obtain ⟨y280, hy280⟩ : ∃ y_ : List (S81), y_ = (y273 ++ y277) := ⟨_, rfl⟩
        replace H : ((some (x6_2.drop (x8_3 : Int).toNat : List (S81))).bind fun y283 => (if y280.length + y283.length < 5864062014805 then (spec_MergeTables.l0 k3 l0 l1 (y280 ++ y283) (wrap64 (x7_2 + 1))) else (none))) = some (r1, r2) := by first | (rw [hy280]; with_reducible exact H) | (have H2_ := (Option.bind_some _ _).symm.trans H; rw [hy280]; with_reducible exact H2_) | (have H2_ := (Option.bind_some _ _).symm.trans H; with_reducible exact H2_) | with_reducible exact H | (rw [hy280]; exact H) | exact H
        have Ny280 := Aside0.mk hy280
        clear hy280
        have c87b0 := eq_true (od_ : 0 ≤ x8_3)
        have c88b0 := eq_true (od_ : x8_3 ≤ (x6_2.length : Int))
        obtain ⟨y283, hy283⟩ : ∃ y_ : List (S81), y_ = (x6_2.drop (x8_3 : Int).toNat) := ⟨_, rfl⟩
        replace H : (if y280.length + y283.length < 5864062014805 then (spec_MergeTables.l0 k3 l0 l1 (y280 ++ y283) (wrap64 (x7_2 + 1))) else (none)) = some (r1, r2) := by first | (rw [hy283]; with_reducible exact H) | (have H2_ := (Option.bind_some _ _).symm.trans H; rw [hy283]; with_reducible exact H2_) | (have H2_ := (Option.bind_some _ _).symm.trans H; with_reducible exact H2_) | with_reducible exact H | (rw [hy283]; exact H) | exact H
        have Ny283 := Aside0.mk hy283
        clear hy283
        by_cases c89 : y280.length + y283.length < 5864062014805
        case neg =>
         rw [if_neg c89] at H
         exact absurd H (by simp)
        rw [if_pos c89] at H
        have LMc89 := Aside0.mk c89
        clear c89
        obtain ⟨y287, hy287⟩ : ∃ y_ : List (S81), y_ = (y280 ++ y283) := ⟨_, rfl⟩
        replace H : (spec_MergeTables.l0 k3 l0 l1 y287 (wrap64 (x7_2 + 1))) = some (r1, r2) := by first | (rw [hy287]; with_reducible exact H) | (have H2_ := (Option.bind_some _ _).symm.trans H; rw [hy287]; with_reducible exact H2_) | (have H2_ := (Option.bind_some _ _).symm.trans H; with_reducible exact H2_) | with_reducible exact H | (rw [hy287]; exact H) | exact H
        have Ny287 := Aside0.mk hy287
        clear hy287
        have H' := Aside0.mk H
        clear H
        try go_wp2
        replace HO_6 := Aside0.mk (Kd.R_drew HO_6.out)
        replace HB := Aside0.mk (below_drew1 HB.out)
        obtain ⟨Ao91, co91, eo91⟩ := Kd.R_slice HO_6.out
        (first | subst eo91 | (injection eo91 with f1_ f2_ f3_; have f4_ := f1_.symm; have f5_ := f3_.symm; clear f1_ f2_ f3_; subst f4_; subst f5_))
        refine start_ (n := 15) (S := fun w' => True) (ds := []) #[f_,f_,f_,f_,f_,f_,f_,f_,f_,f_,f_,f_,f_,f_,f_] (by kernel_rfl) rfl rfl trivial (fun hHeld => ?_); refine with_tabW spec_MergeTables.tab8 spec_MergeTables.bits8 (fun HT_ HW_ => ?_)
        generalize wr.drew = w90 at HO_6 HB hHeld ⊢
        refine pv_ 0 27 HT_.out ?_
        refine pv_ 1 28 HT_.out ?_
        refine pv_ 2 29 HT_.out ?_
        refine pv_ 3 30 HT_.out ?_
        refine pv_ 4 31 HT_.out ?_
        refine uv_ 5 32 HT_.out ?_
        refine uv_ 6 33 HT_.out ?_
        refine uv_ 7 34 HT_.out ?_
        refine uv_ 8 35 HT_.out ?_
        refine uv_ 9 36 HT_.out ?_
        refine uv_ 10 37 HT_.out ?_
        refine uv_ 11 38 HT_.out ?_
        refine uv_ 12 39 HT_.out ?_
        refine uv_ 13 40 HT_.out ?_
        refine pu_ 14 41 #[t_,t_,t_,t_,t_,t_,t_,t_,t_,t_,t_,t_,t_,t_,t_] HT_.out ?_
        refine done_ (done_of HT_.out (by kernel_rfl)) ?_
        try go_wp2
        replace HO_6 := Aside0.mk (Kd.R_drew HO_6.out)
        replace HB := Aside0.mk (below_drew1 HB.out)
        refine start_ (n := 30) (S := fun w' => True) (ds := []) #[f_,f_,f_,f_,f_,f_,f_,f_,f_,f_,f_,f_,f_,f_,f_,f_,f_,f_,f_,f_,f_,f_,f_,f_,f_,f_,f_,f_,f_,f_] (by kernel_rfl) rfl rfl trivial (fun hHeld => ?_); refine with_tabW spec_MergeTables.tab10 spec_MergeTables.bits10 (fun HT_ HW_ => ?_)
        generalize w90.drew = w92 at HO_6 HB hHeld ⊢
        refine pv_ 0 44 HT_.out ?_
        refine pv_ 1 45 HT_.out ?_
        refine pv_ 2 46 HT_.out ?_
        refine pv_ 3 47 HT_.out ?_
        refine pv_ 4 48 HT_.out ?_
        refine uv_ 5 49 HT_.out ?_
        refine uv_ 6 50 HT_.out ?_
        refine uv_ 7 51 HT_.out ?_
        refine uv_ 8 52 HT_.out ?_
        refine uv_ 9 53 HT_.out ?_
        refine uv_ 10 54 HT_.out ?_
        refine uv_ 11 55 HT_.out ?_
        refine uv_ 12 56 HT_.out ?_
        refine uv_ 13 57 HT_.out ?_
        refine uv_ 14 58 HT_.out ?_
        refine uv_ 15 59 HT_.out ?_
        refine pv_ 16 60 HT_.out ?_
        refine pv_ 17 61 HT_.out ?_
        refine uv_ 18 62 HT_.out ?_
        refine uv_ 19 63 HT_.out ?_
        refine uv_ 20 64 HT_.out ?_
        refine uv_ 21 65 HT_.out ?_
        refine uv_ 22 66 HT_.out ?_
        refine uv_ 23 67 HT_.out ?_
        refine uv_ 24 68 HT_.out ?_
        refine uv_ 25 69 HT_.out ?_
        refine uv_ 26 70 HT_.out ?_
        refine uv_ 27 71 HT_.out ?_
        refine uv_ 28 72 HT_.out ?_
        refine pu_ 29 73 #[t_,t_,t_,t_,t_,t_,t_,t_,t_,t_,t_,t_,t_,t_,t_,t_,t_,t_,t_,t_,t_,t_,t_,t_,t_,t_,t_,t_,t_,t_] HT_.out ?_
        refine done_ (done_of HT_.out (by kernel_rfl)) ?_
        try go_wp2
        replace HO_6 := Aside0.mk (Kd.R_drew HO_6.out)
        replace HB := Aside0.mk (below_drew1 HB.out)
        have q94 : (x8_3 : Int) ≤ ((x6_2.length : Int) : Int) := od_
        obtain ⟨i094, hi094, _, hsz94, _⟩ := info_parts info81
        have hroom94 : x6_2.length ≤ co91 := (by have h_ := Kd.R_reads' HO_6.out; omega)
        have hC94 : Kd.C k81 _ Ao91 x6_2.length x6_2 := (Kd.R_reads' HO_6.out).2.2
        have hm94_ := Aside0.mk (show (x8_3 : Int).toNat ≤ x6_2.length from by omega)
        have hq94_ := Aside0.mk hroom94
        have hcut94 := cut_to (P := Try.prog) 29 81 .i64 Try.underlying29 hi094 Ao91 x6_2.length co91 x8_3 od_ q94 hroom94
        have hr94 := Kd.C_take (m := (x8_3 : Int).toNat) hC94 (by omega)
        have hy94 : y269.length = (x8_3 : Int).toNat := (by rw [Ny269.out, List.length_take]; omega)
        rw [← Ny269.out] at hr94
        rw [← hy94] at hcut94
        have HR272 := Aside0.mk hr94
        have HC272 := Aside0.mk (show y269.length ≤ co91 from by omega)
        clear hr94 hC94 hroom94 hi094 hsz94
        have KY94 := Aside0.mk hy94
        clear hy94
        replace q94 := eq_true q94
        have p276 : 0 ≤ (x7_2 : Int) := od_
        have q276 : x7_2 < (l1.length : Int) := od_
        obtain ⟨ad276, e276, hx276_0, hx276_1, hx276_2⟩ := at_T81 HR1.out x7_2 p276 q276
        have hw276_2 := hx276_2
        have hw276_1 := hx276_1
        have hw276_0 := hx276_0
        cases e276
        replace hx276_0 := bc_ HB.out hx276_0
        replace hx276_1 := bc_ HB.out hx276_1
        replace hx276_2 := bc_ HB.out hx276_2
        replace p276 := eq_true p276
        replace q276 := eq_true q276
        have q95 : (x8_3 : Int) ≤ ((x6_2.length : Int) : Int) := od_
        obtain ⟨i095, hi095, _, hsz95, _⟩ := info_parts info81
        have hroom95 : x6_2.length ≤ co91 := (by have h_ := Kd.R_reads' HO_6.out; omega)
        have hC95 : Kd.C k81 _ Ao91 x6_2.length x6_2 := (Kd.R_reads' HO_6.out).2.2
        have q095 : (0 : Int) ≤ (x8_3 : Int) := od_
        have hm95_ := Aside0.mk (show (x8_3 : Int).toNat ≤ x6_2.length from by omega)
        have hq95_ := Aside0.mk hroom95
        have hcut95 := cut_from (P := Try.prog) 29 81 .i64 Try.underlying29 hi095 3 hsz95 Ao91 x6_2.length co91 x8_3 q095 q95
        have hr95 := Kd.C_drop (m := (x8_3 : Int).toNat) (c := co91) hC95 (by omega) hroom95
        obtain ⟨A95, hA95⟩ : ∃ A1, A1 = (if co91 = (x8_3 : Int).toNat then Ao91 else (Ao91 : Option Addr).map (·.add ((x8_3 : Int).toNat * 3))) := ⟨_, rfl⟩
        obtain ⟨c95, hc95⟩ : ∃ c1, c1 = co91 - (x8_3 : Int).toNat := ⟨_, rfl⟩
        have hy95 : y283.length = x6_2.length - (x8_3 : Int).toNat := (by rw [Ny283.out, List.length_drop] <;> omega)
        rw [show (x6_2).drop (x8_3 : Int).toNat = y283 from Ny283.out.symm] at hr95
        replace hr95 : Kd.C k81 _ A95 y283.length y283 := (by rw [hA95]; exact hr95)
        rw [← hy95, ← hA95, ← hc95] at hcut95
        have HR286 := Aside0.mk hr95
        have HC286 := Aside0.mk (show y283.length ≤ c95 from by rw [hy95, hc95]; exact Nat.sub_le_sub_right hroom95 _)
        clear hr95 hC95 hroom95 hi095 hsz95 hc95
        have KY95 := Aside0.mk hy95
        have KA95 := Aside0.mk hA95
        clear hy95 hA95
        replace q95 := eq_true q95
        refine start_ (n := 16) (S := fun w' => w'.cell? (ad276.add ((x7_2).toNat * 3)) = some (.int .i64 ((rd_T81 l1 x7_2).f0)) ∧ w'.cell? ⟨(ad276.add ((x7_2).toNat * 3)).block, (ad276.add ((x7_2).toNat * 3)).off + 1, none⟩ = some (.int .i64 ((rd_T81 l1 x7_2).f1)) ∧ w'.cell? ⟨(ad276.add ((x7_2).toNat * 3)).block, (ad276.add ((x7_2).toNat * 3)).off + 2, none⟩ = some (.int .i64 ((rd_T81 l1 x7_2).f2))) (ds := []) #[f_,f_,f_,f_,f_,f_,f_,f_,f_,f_,f_,f_,f_,f_,f_,f_] (by kernel_rfl) rfl rfl ⟨(bc_ HB.out hw276_0 :), (bc_ HB.out hw276_1 :), (bc_ HB.out hw276_2 :)⟩ (fun hHeld => ?_); refine with_tabW spec_MergeTables.tab12 spec_MergeTables.bits12 (fun HT_ HW_ => ?_)
        generalize w92.drew = w93 at HO_6 HB HR272 HR286 hx276_0 hx276_1 hx276_2 hHeld ⊢
        refine pv_ 1 90 HT_.out ?_
        refine pv_ 2 91 HT_.out ?_
        refine pv_ 3 92 HT_.out ?_
        refine pv_ 5 94 HT_.out ?_
        refine pv_ 6 95 HT_.out ?_
        refine pv_ 7 96 HT_.out ?_
        refine pv_ 11 100 HT_.out ?_
        refine pv_ 12 101 HT_.out ?_
        refine pv_ 13 102 HT_.out ?_
        refine tk3_ 8 97 #[f_,t_,t_,t_,f_,t_,t_,t_,t_,f_,f_,t_,t_,t_,f_,f_] HT_.out HW_.out hHeld ?_
        refine join_ (σ := Value × Value × Value) 3 #[t_,t_,t_,t_,t_,t_,t_,t_,t_,t_,f_,t_,t_,t_,f_,f_] (fun s_ => [(89, s_.1), (93, s_.2.1), (98, s_.2.2)]) (fun s_ w' => (w'.cell? (ad276.add ((x7_2).toNat * 3)) = some (.int .i64 ((rd_T81 l1 x7_2).f0)) ∧ w'.cell? ⟨(ad276.add ((x7_2).toNat * 3)).block, (ad276.add ((x7_2).toNat * 3)).off + 1, none⟩ = some (.int .i64 ((rd_T81 l1 x7_2).f1)) ∧ w'.cell? ⟨(ad276.add ((x7_2).toNat * 3)).block, (ad276.add ((x7_2).toNat * 3)).off + 2, none⟩ = some (.int .i64 ((rd_T81 l1 x7_2).f2))) ∧ (Kd.R k81 81 w' w.heap.size (fun k_ => some k_ ≠ (s_.2.2 : Value).ownBlock ∧ some k_ ≠ (.slice Ao91 x6_2.length co91 : Value).ownBlock) s_.2.1 y273) ∧ (Kd.R k81 81 w' w.heap.size (fun k_ => some k_ ≠ (s_.2.1 : Value).ownBlock ∧ some k_ ≠ (.slice Ao91 x6_2.length co91 : Value).ownBlock) s_.2.2 y277) ∧ (Kd.R k81 81 w' w.heap.size (fun k_ => some k_ ≠ (s_.2.1 : Value).ownBlock ∧ some k_ ≠ (s_.2.2 : Value).ownBlock) (.slice Ao91 x6_2.length co91) x6_2) ∧ (Below w.heap.size w w')) ?_ ?_
        rotate_left
        ·intro hCont
         refine two_ (i := 0) (j := 9) (Ni := some 89) (Nj := some 98) #[t_,t_,t_,t_,f_,t_,t_,t_,t_,f_,f_,t_,t_,t_,f_,f_] #[f_,t_,t_,t_,f_,t_,t_,t_,t_,t_,f_,t_,t_,t_,f_,f_] rfl rfl rfl rfl (two_of HT_.out (by kernel_rfl)) (by decide) (by decide) (fun K hK => ?_) (fun K hK => ?_)
         ·skip
          refine Kd.R_lit_step k81 _ 81 ?hg (N := 89) ?hd (xs := ([] : List (S81))) (inner := []) (ok := fun _ => True) (okp := fun _ => True) ?hr ?hp (fun _ hk => hk) trivial (Below.refl _ _) (Nat.le_refl _) (by simp) ?_; (case hd => rfl); (case hg => rfl); (case hr => first | (go_simp; done) | (go_simp; rfl)); (case hp => exact (Reps.none _ _))
          intro v267 w96 ho97 hb hg_ hnew_
          clear hg_ hnew_
          (first | rw [← Ny266.out] at ho97 | (simp only [Int.reduceToNat] at ho97; rw [← Ny266.out] at ho97))
          have HO268 := Aside0.mk (Kd.R_lower (Kd.R_new' ho97 (Kd.R_lt (rk_ HO_6.out))) (below_size (bl_ HB.out)))
          replace HO_6 := Aside0.mk (Kd.R_elder' (rk_ HO_6.out) (Kd.R_base ho97) hb)
          replace HB := Aside0.mk (below_step (bl_ HB.out) hb)
          clear hb ho97
          refine hK.out _ _ ⟨(bc_ HB.out hw276_0 :), (bc_ HB.out hw276_1 :), (bc_ HB.out hw276_2 :)⟩ (fun hHeld => ?_)
          clear hK K
          refine norm_ (a' := ?_) ?_ ?_
          rotate_left
          ·show Act.put _ (some 89) _ = _
           simp only [pz_]
           rfl
          refine two_ (i := 4) (j := 9) (Ni := some 93) (Nj := some 98) #[t_,t_,t_,t_,t_,t_,t_,t_,t_,f_,f_,t_,t_,t_,f_,f_] #[t_,t_,t_,t_,f_,t_,t_,t_,t_,t_,f_,t_,t_,t_,f_,f_] rfl rfl rfl rfl (two_of HT_.out (by kernel_rfl)) (by decide) (by decide) (fun K hK => ?_) (fun K hK => ?_)
          ·skip
           refine Kd.R_append_rows_step k81 (w0 := w) w.heap.size (by rfl) (.tmp 89) (.tmp 92) 29 81 (.agg #[(.int .i64 0), (.int .i64 0), (.int .i64 0)]) 24 rfl Try.underlying29 info81 rfl (by decide) (by omega) v267 y266 y269 _ _ _ (fun k_ => some k_ ≠ (.slice Ao91 x6_2.length co91 : Value).ownBlock) (fun _ => False) rfl rfl ?aO ?aR (fun _ _ h => h) (fun _ h => h.elim) ?aF ?aB ?aS ?aL ?_
           (case aR => exact r19_ Ny269.out HO_6.out)
           (case aB => exact (bl_ HB.out))
           (case aF => exact (fun k_ hk => Kd.fresh' (Kd.R_lt (rk_ HO_6.out)) k_ hk))
           (case aO => exact (rk_ (Kd.R_mono HO268.out (fun _ hk => hk.2))))
           (case aS => exact (below_size (bl_ HB.out)))
           (case aL => have := LMc83.out; omega)
           intro v274 w98 ho hb hg hat
           rw [← Ny273.out] at ho
           have n0_ := Aside0.mk (Kd.R_after (ok := (fun _ => True)) (rk_ HO_6.out) hg hat)
           have n1_ := Aside0.mk (hb)
           have n2_ := Aside0.mk (ho)
           clear HO_6
           clear HB
           clear HO268
           have HO_6 := n0_
           have HB := n1_
           have HO275 := n2_
           clear n0_ n1_ n2_
           clear ho hb hg hat
           refine hK.out _ _ ⟨(bc_ HB.out hw276_0 :), (bc_ HB.out hw276_1 :), (bc_ HB.out hw276_2 :)⟩ (fun hHeld => ?_)
           clear hK K
           refine norm_ (a' := ?_) ?_ ?_
           rotate_left
           ·show Act.put _ (some 93) _ = _
            simp only [pz_]
            rfl
           refine one_ (i := 9) (N := some 98) #[t_,t_,t_,t_,t_,t_,t_,t_,t_,t_,f_,t_,t_,t_,f_,f_] rfl rfl (one_of HT_.out (by kernel_rfl)) (by decide) (fun K hK => ?_)
           refine Kd.R_lit_step k81 _ 81 ?hg (N := 98) ?hd (xs := ([(⟨(rd_T81 l1 x7_2).f0, (rd_T81 l1 x7_2).f1, (rd_T81 l1 x7_2).f2⟩ : S81)] : List (S81))) (inner := [.int .i64 ((rd_T81 l1 x7_2).f0), .int .i64 ((rd_T81 l1 x7_2).f1), .int .i64 ((rd_T81 l1 x7_2).f2)]) (ok := fun _ => True) (okp := fun _ => True) ?hr ?hp (fun _ hk => hk) trivial (Below.refl _ _) (Nat.le_refl _) (by simp) ?_; (case hd => rfl); (case hg => rfl); (case hr => first | (go_simp; done) | (go_simp; rfl)); (case hp => exact (Reps.c3 (show Kd.M k81 _ _ _ (⟨(rd_T81 l1 x7_2).f0, (rd_T81 l1 x7_2).f1, (rd_T81 l1 x7_2).f2⟩ : S81) [.int .i64 ((rd_T81 l1 x7_2).f0), .int .i64 ((rd_T81 l1 x7_2).f1), .int .i64 ((rd_T81 l1 x7_2).f2)] from (k81_mkM _ _ _ (⟨(rd_T81 l1 x7_2).f0, (rd_T81 l1 x7_2).f1, (rd_T81 l1 x7_2).f2⟩ : S81) )) (Reps.none _ _)))
           intro v278 w99 ho100 hb hg_ hnew_
           clear hg_ hnew_
           (first | rw [← Ny277.out] at ho100 | (simp only [Int.reduceToNat] at ho100; rw [← Ny277.out] at ho100))
           have HO279 := Aside0.mk (Kd.R_lower (Kd.R_new' (Kd.R_new' ho100 (Kd.R_lt (rk_ HO_6.out))) (Kd.R_lt (rk_ HO275.out))) (below_size (bl_ HB.out)))
           replace HO_6 := Aside0.mk (Kd.R_elder' (rk_ HO_6.out) (Kd.R_base ho100) hb)
           replace HO275 := Aside0.mk (Kd.R_elder' (rk_ HO275.out) (Kd.R_base ho100) hb)
           replace HB := Aside0.mk (below_step (bl_ HB.out) hb)
           clear hb ho100
           refine hK.out _ _ ⟨(bc_ HB.out hw276_0 :), (bc_ HB.out hw276_1 :), (bc_ HB.out hw276_2 :)⟩ (fun hHeld => ?_)
           clear hK K
           refine norm_ (a' := ?_) ?_ ?_
           rotate_left
           ·show Act.put _ (some 98) _ = _
            simp only [pz_]
            rfl
           exact norm_ (by simp only [putAll, Act.put, List.setIfInBounds_toArray, List.set_cons_zero, List.set_cons_succ]) (hCont (v267, v274, v278) _ ⟨hHeld, (rk_ (Kd.R_mono HO275.out (fun _ hk => ⟨hk.2, hk.1⟩))), (rk_ (Kd.R_mono HO279.out (fun _ hk => ⟨hk.2, hk.1.2⟩))), (rk_ (Kd.R_mono HO_6.out (fun _ hk => ⟨hk.1.2, hk.2⟩))), (bl_ HB.out)⟩)
          ·skip
           refine Kd.R_lit_step k81 _ 81 ?hg (N := 98) ?hd (xs := ([(⟨(rd_T81 l1 x7_2).f0, (rd_T81 l1 x7_2).f1, (rd_T81 l1 x7_2).f2⟩ : S81)] : List (S81))) (inner := [.int .i64 ((rd_T81 l1 x7_2).f0), .int .i64 ((rd_T81 l1 x7_2).f1), .int .i64 ((rd_T81 l1 x7_2).f2)]) (ok := fun _ => True) (okp := fun _ => True) ?hr ?hp (fun _ hk => hk) trivial (Below.refl _ _) (Nat.le_refl _) (by simp) ?_; (case hd => rfl); (case hg => rfl); (case hr => first | (go_simp; done) | (go_simp; rfl)); (case hp => exact (Reps.c3 (show Kd.M k81 _ _ _ (⟨(rd_T81 l1 x7_2).f0, (rd_T81 l1 x7_2).f1, (rd_T81 l1 x7_2).f2⟩ : S81) [.int .i64 ((rd_T81 l1 x7_2).f0), .int .i64 ((rd_T81 l1 x7_2).f1), .int .i64 ((rd_T81 l1 x7_2).f2)] from (k81_mkM _ _ _ (⟨(rd_T81 l1 x7_2).f0, (rd_T81 l1 x7_2).f1, (rd_T81 l1 x7_2).f2⟩ : S81) )) (Reps.none _ _)))
           intro v278 w98 ho99 hb hg_ hnew_
           clear hg_ hnew_
           (first | rw [← Ny277.out] at ho99 | (simp only [Int.reduceToNat] at ho99; rw [← Ny277.out] at ho99))
           have HO279 := Aside0.mk (Kd.R_lower (Kd.R_new' (Kd.R_new' ho99 (Kd.R_lt (rk_ HO_6.out))) (Kd.R_lt (rk_ HO268.out))) (below_size (bl_ HB.out)))
           replace HO_6 := Aside0.mk (Kd.R_elder' (rk_ HO_6.out) (Kd.R_base ho99) hb)
           replace HO268 := Aside0.mk (Kd.R_elder' (rk_ HO268.out) (Kd.R_base ho99) hb)
           replace HB := Aside0.mk (below_step (bl_ HB.out) hb)
           clear hb ho99
           refine hK.out _ _ ⟨(bc_ HB.out hw276_0 :), (bc_ HB.out hw276_1 :), (bc_ HB.out hw276_2 :)⟩ (fun hHeld => ?_)
           clear hK K
           refine norm_ (a' := ?_) ?_ ?_
           rotate_left
           ·show Act.put _ (some 98) _ = _
            simp only [pz_]
            rfl
           refine one_ (i := 4) (N := some 93) #[t_,t_,t_,t_,t_,t_,t_,t_,t_,t_,f_,t_,t_,t_,f_,f_] rfl rfl (one_of HT_.out (by kernel_rfl)) (by decide) (fun K hK => ?_)
           refine Kd.R_append_rows_step k81 (w0 := w) w.heap.size (by rfl) (.tmp 89) (.tmp 92) 29 81 (.agg #[(.int .i64 0), (.int .i64 0), (.int .i64 0)]) 24 rfl Try.underlying29 info81 rfl (by decide) (by omega) v267 y266 y269 _ _ _ (fun k_ => some k_ ≠ (.slice Ao91 x6_2.length co91 : Value).ownBlock ∧ some k_ ≠ (v278 : Value).ownBlock) (fun _ => False) rfl rfl ?aO ?aR (fun _ _ h => h) (fun _ h => h.elim) ?aF ?aB ?aS ?aL ?_
           (case aR => exact r19_ Ny269.out HO_6.out)
           (case aB => exact (bl_ HB.out))
           (case aF => exact (fun k_ hk => ⟨Kd.fresh' (Kd.R_lt (rk_ HO_6.out)) k_ hk, Kd.fresh' (Kd.R_lt (rk_ HO279.out)) k_ hk⟩))
           (case aO => exact (rk_ (Kd.R_mono HO268.out (fun _ hk => ⟨hk.1.2, hk.2⟩))))
           (case aS => exact (below_size (bl_ HB.out)))
           (case aL => have := LMc83.out; omega)
           intro v274 w100 ho hb hg hat
           rw [← Ny273.out] at ho
           have n0_ := Aside0.mk (Kd.R_after (ok := (fun k_ => some k_ ≠ (v278 : Value).ownBlock)) (rk_ (Kd.R_mono HO_6.out (fun _ hk => ⟨hk.2, hk.1.2⟩))) hg hat)
           have n1_ := Aside0.mk (Kd.R_after (ok := (fun k_ => some k_ ≠ (.slice Ao91 x6_2.length co91 : Value).ownBlock)) (rk_ (Kd.R_mono HO279.out (fun _ hk => ⟨hk.1.2, hk.2⟩))) hg hat)
           have n2_ := Aside0.mk (hb)
           have n3_ := Aside0.mk (ho)
           clear HO_6
           clear HO279
           clear HB
           clear HO268
           have HO_6 := n0_
           have HO279 := n1_
           have HB := n2_
           have HO275 := n3_
           clear n0_ n1_ n2_ n3_
           clear ho hb hg hat
           refine hK.out _ _ ⟨(bc_ HB.out hw276_0 :), (bc_ HB.out hw276_1 :), (bc_ HB.out hw276_2 :)⟩ (fun hHeld => ?_)
           clear hK K
           refine norm_ (a' := ?_) ?_ ?_
           rotate_left
           ·show Act.put _ (some 93) _ = _
            simp only [pz_]
            rfl
           exact norm_ (by simp only [putAll, Act.put, List.setIfInBounds_toArray, List.set_cons_zero, List.set_cons_succ]) (hCont (v267, v274, v278) _ ⟨hHeld, (rk_ (Kd.R_mono HO275.out (fun _ hk => ⟨hk.2, hk.1⟩))), (rk_ (Kd.R_mono HO279.out (fun _ hk => ⟨hk.2, hk.1⟩))), (rk_ (Kd.R_mono HO_6.out (fun _ hk => ⟨hk.2, hk.1⟩))), (bl_ HB.out)⟩)
         ·skip
          refine Kd.R_lit_step k81 _ 81 ?hg (N := 98) ?hd (xs := ([(⟨(rd_T81 l1 x7_2).f0, (rd_T81 l1 x7_2).f1, (rd_T81 l1 x7_2).f2⟩ : S81)] : List (S81))) (inner := [.int .i64 ((rd_T81 l1 x7_2).f0), .int .i64 ((rd_T81 l1 x7_2).f1), .int .i64 ((rd_T81 l1 x7_2).f2)]) (ok := fun _ => True) (okp := fun _ => True) ?hr ?hp (fun _ hk => hk) trivial (Below.refl _ _) (Nat.le_refl _) (by simp) ?_; (case hd => rfl); (case hg => rfl); (case hr => first | (go_simp; done) | (go_simp; rfl)); (case hp => exact (Reps.c3 (show Kd.M k81 _ _ _ (⟨(rd_T81 l1 x7_2).f0, (rd_T81 l1 x7_2).f1, (rd_T81 l1 x7_2).f2⟩ : S81) [.int .i64 ((rd_T81 l1 x7_2).f0), .int .i64 ((rd_T81 l1 x7_2).f1), .int .i64 ((rd_T81 l1 x7_2).f2)] from (k81_mkM _ _ _ (⟨(rd_T81 l1 x7_2).f0, (rd_T81 l1 x7_2).f1, (rd_T81 l1 x7_2).f2⟩ : S81) )) (Reps.none _ _)))
          intro v278 w96 ho97 hb hg_ hnew_
          clear hg_ hnew_
          (first | rw [← Ny277.out] at ho97 | (simp only [Int.reduceToNat] at ho97; rw [← Ny277.out] at ho97))
          have HO279 := Aside0.mk (Kd.R_lower (Kd.R_new' ho97 (Kd.R_lt (rk_ HO_6.out))) (below_size (bl_ HB.out)))
          replace HO_6 := Aside0.mk (Kd.R_elder' (rk_ HO_6.out) (Kd.R_base ho97) hb)
          replace HB := Aside0.mk (below_step (bl_ HB.out) hb)
          clear hb ho97
          refine hK.out _ _ ⟨(bc_ HB.out hw276_0 :), (bc_ HB.out hw276_1 :), (bc_ HB.out hw276_2 :)⟩ (fun hHeld => ?_)
          clear hK K
          refine norm_ (a' := ?_) ?_ ?_
          rotate_left
          ·show Act.put _ (some 98) _ = _
           simp only [pz_]
           rfl
          refine one_ (i := 0) (N := some 89) #[t_,t_,t_,t_,f_,t_,t_,t_,t_,t_,f_,t_,t_,t_,f_,f_] rfl rfl (one_of HT_.out (by kernel_rfl)) (by decide) (fun K hK => ?_)
          refine Kd.R_lit_step k81 _ 81 ?hg (N := 89) ?hd (xs := ([] : List (S81))) (inner := []) (ok := fun _ => True) (okp := fun _ => True) ?hr ?hp (fun _ hk => hk) trivial (Below.refl _ _) (Nat.le_refl _) (by simp) ?_; (case hd => rfl); (case hg => rfl); (case hr => first | (go_simp; done) | (go_simp; rfl)); (case hp => exact (Reps.none _ _))
          intro v267 w98 ho99 hb hg_ hnew_
          clear hg_ hnew_
          (first | rw [← Ny266.out] at ho99 | (simp only [Int.reduceToNat] at ho99; rw [← Ny266.out] at ho99))
          have HO268 := Aside0.mk (Kd.R_lower (Kd.R_new' (Kd.R_new' ho99 (Kd.R_lt (rk_ HO_6.out))) (Kd.R_lt (rk_ HO279.out))) (below_size (bl_ HB.out)))
          replace HO_6 := Aside0.mk (Kd.R_elder' (rk_ HO_6.out) (Kd.R_base ho99) hb)
          replace HO279 := Aside0.mk (Kd.R_elder' (rk_ HO279.out) (Kd.R_base ho99) hb)
          replace HB := Aside0.mk (below_step (bl_ HB.out) hb)
          clear hb ho99
          refine hK.out _ _ ⟨(bc_ HB.out hw276_0 :), (bc_ HB.out hw276_1 :), (bc_ HB.out hw276_2 :)⟩ (fun hHeld => ?_)
          clear hK K
          refine norm_ (a' := ?_) ?_ ?_
          rotate_left
          ·show Act.put _ (some 89) _ = _
           simp only [pz_]
           rfl
          refine one_ (i := 4) (N := some 93) #[t_,t_,t_,t_,t_,t_,t_,t_,t_,t_,f_,t_,t_,t_,f_,f_] rfl rfl (one_of HT_.out (by kernel_rfl)) (by decide) (fun K hK => ?_)
          refine Kd.R_append_rows_step k81 (w0 := w) w.heap.size (by rfl) (.tmp 89) (.tmp 92) 29 81 (.agg #[(.int .i64 0), (.int .i64 0), (.int .i64 0)]) 24 rfl Try.underlying29 info81 rfl (by decide) (by omega) v267 y266 y269 _ _ _ (fun k_ => some k_ ≠ (.slice Ao91 x6_2.length co91 : Value).ownBlock ∧ some k_ ≠ (v278 : Value).ownBlock) (fun _ => False) rfl rfl ?aO ?aR (fun _ _ h => h) (fun _ h => h.elim) ?aF ?aB ?aS ?aL ?_
          (case aR => exact r19_ Ny269.out HO_6.out)
          (case aB => exact (bl_ HB.out))
          (case aF => exact (fun k_ hk => ⟨Kd.fresh' (Kd.R_lt (rk_ HO_6.out)) k_ hk, Kd.fresh' (Kd.R_lt (rk_ HO279.out)) k_ hk⟩))
          (case aO => exact (rk_ (Kd.R_mono HO268.out (fun _ hk => ⟨hk.1.2, hk.2⟩))))
          (case aS => exact (below_size (bl_ HB.out)))
          (case aL => have := LMc83.out; omega)
          intro v274 w100 ho hb hg hat
          rw [← Ny273.out] at ho
          have n0_ := Aside0.mk (Kd.R_after (ok := (fun k_ => some k_ ≠ (v278 : Value).ownBlock)) (rk_ (Kd.R_mono HO_6.out (fun _ hk => ⟨hk.1.2, hk.2⟩))) hg hat)
          have n1_ := Aside0.mk (Kd.R_after (ok := (fun k_ => some k_ ≠ (.slice Ao91 x6_2.length co91 : Value).ownBlock)) (rk_ (Kd.R_mono HO279.out (fun _ hk => ⟨hk.1.2, hk.2⟩))) hg hat)
          have n2_ := Aside0.mk (hb)
          have n3_ := Aside0.mk (ho)
          clear HO_6
          clear HO279
          clear HB
          clear HO268
          have HO_6 := n0_
          have HO279 := n1_
          have HB := n2_
          have HO275 := n3_
          clear n0_ n1_ n2_ n3_
          clear ho hb hg hat
          refine hK.out _ _ ⟨(bc_ HB.out hw276_0 :), (bc_ HB.out hw276_1 :), (bc_ HB.out hw276_2 :)⟩ (fun hHeld => ?_)
          clear hK K
          refine norm_ (a' := ?_) ?_ ?_
          rotate_left
          ·show Act.put _ (some 93) _ = _
           simp only [pz_]
           rfl
          exact norm_ (by simp only [putAll, Act.put, List.setIfInBounds_toArray, List.set_cons_zero, List.set_cons_succ]) (hCont (v267, v274, v278) _ ⟨hHeld, (rk_ (Kd.R_mono HO275.out (fun _ hk => ⟨hk.2, hk.1⟩))), (rk_ (Kd.R_mono HO279.out (fun _ hk => ⟨hk.2, hk.1⟩))), (rk_ (Kd.R_mono HO_6.out (fun _ hk => ⟨hk.2, hk.1⟩))), (bl_ HB.out)⟩)
        rintro ⟨v267, v274, v278⟩ w101 ⟨hS_, h0_, h1_, h2_, h3_⟩
        have n0_ : Aside0 (Kd.R k81 81 w101 w.heap.size (fun k_ => some k_ ≠ (v278 : Value).ownBlock ∧ some k_ ≠ (.slice Ao91 x6_2.length co91 : Value).ownBlock) v274 y273) := ⟨h0_⟩
        have n1_ : Aside0 (Kd.R k81 81 w101 w.heap.size (fun k_ => some k_ ≠ (v274 : Value).ownBlock ∧ some k_ ≠ (.slice Ao91 x6_2.length co91 : Value).ownBlock) v278 y277) := ⟨h1_⟩
        have n2_ : Aside0 (Kd.R k81 81 w101 w.heap.size (fun k_ => some k_ ≠ (v274 : Value).ownBlock ∧ some k_ ≠ (v278 : Value).ownBlock) (.slice Ao91 x6_2.length co91) x6_2) := ⟨h2_⟩
        have n3_ : Aside0 (Below w.heap.size w w101) := ⟨h3_⟩
        clear HO_6
        clear HB
        clear h0_ h1_ h2_ h3_
        have HO275 := n0_
        have HO279 := n1_
        have HO_6 := n2_
        have HB := n3_
        clear n0_ n1_ n2_ n3_
        have hHeld : w101.cell? (ad276.add ((x7_2).toNat * 3)) = some (.int .i64 ((rd_T81 l1 x7_2).f0)) ∧ w101.cell? ⟨(ad276.add ((x7_2).toNat * 3)).block, (ad276.add ((x7_2).toNat * 3)).off + 1, none⟩ = some (.int .i64 ((rd_T81 l1 x7_2).f1)) ∧ w101.cell? ⟨(ad276.add ((x7_2).toNat * 3)).block, (ad276.add ((x7_2).toNat * 3)).off + 2, none⟩ = some (.int .i64 ((rd_T81 l1 x7_2).f2)) := hS_
        obtain ⟨Ao103, co103, eo103⟩ := Kd.R_slice HO279.out
        (first | subst eo103 | (injection eo103 with f1_ f2_ f3_; have f4_ := f1_.symm; have f5_ := f3_.symm; clear f1_ f2_ f3_; subst f4_; subst f5_))
        refine norm_ (a' := ?_) ?_ ?_
        rotate_left
        ·simp only [putAll, Act.put, List.setIfInBounds_toArray, List.set_cons_zero, List.set_cons_succ]
         rfl
        refine one_ (i := 10) (N := some 99) #[t_,t_,t_,t_,t_,t_,t_,t_,t_,t_,t_,t_,t_,t_,f_,f_] rfl rfl (one_of HT_.out (by kernel_rfl)) (by decide) (fun K hK => ?_)
        refine Kd.R_append_rows_step k81 (w0 := w) w.heap.size (by rfl) (.tmp 93) (.tmp 98) 29 81 (.agg #[(.int .i64 0), (.int .i64 0), (.int .i64 0)]) 24 rfl Try.underlying29 info81 rfl (by decide) (by omega) v274 y273 y277 _ _ _ (fun k_ => some k_ ≠ (.slice Ao91 x6_2.length co91 : Value).ownBlock ∧ some k_ ≠ (.slice Ao103 y277.length co103 : Value).ownBlock) (fun _ => False) rfl rfl ?aO ?aR (fun _ _ h => h) (fun _ h => h.elim) ?aF ?aB ?aS ?aL ?_
        (case aR => exact r6_ HO279.out)
        (case aB => exact (bl_ HB.out))
        (case aF => exact (fun k_ hk => ⟨Kd.fresh' (Kd.R_lt (rk_ HO_6.out)) k_ hk, Kd.fresh' (Kd.R_lt (rk_ HO279.out)) k_ hk⟩))
        (case aO => exact (rk_ (Kd.R_mono HO275.out (fun _ hk => ⟨hk.2, hk.1⟩))))
        (case aS => exact (below_size (bl_ HB.out)))
        (case aL => have := LMc86.out; omega)
        intro v281 w102 ho hb hg hat
        rw [← Ny280.out] at ho
        have n0_ := Aside0.mk (Kd.R_after (ok := (fun k_ => some k_ ≠ (.slice Ao103 y277.length co103 : Value).ownBlock)) (rk_ (Kd.R_mono HO_6.out (fun _ hk => ⟨hk.2, hk.1⟩))) hg hat)
        have n1_ := Aside0.mk (Kd.R_after (ok := (fun k_ => some k_ ≠ (.slice Ao91 x6_2.length co91 : Value).ownBlock)) (rk_ (Kd.R_mono HO279.out (fun _ hk => ⟨hk.2, hk.1⟩))) hg hat)
        have n2_ := Aside0.mk (hb)
        have n3_ := Aside0.mk (ho)
        clear HO_6
        clear HO279
        clear HB
        clear HO275
        have HO_6 := n0_
        have HO279 := n1_
        have HB := n2_
        have HO282 := n3_
        clear n0_ n1_ n2_ n3_
        clear ho hb hg hat
        refine hK.out _ _ ⟨(bc_ HB.out hw276_0 :), (bc_ HB.out hw276_1 :), (bc_ HB.out hw276_2 :)⟩ (fun hHeld => ?_)
        clear hK K
        refine norm_ (a' := ?_) ?_ ?_
        rotate_left
        ·show Act.put _ (some 99) _ = _
         simp only [pz_]
         rfl
        refine one_ (i := 14) (N := some 103) #[t_,t_,t_,t_,t_,t_,t_,t_,t_,t_,t_,t_,t_,t_,t_,f_] rfl rfl (one_of HT_.out (by kernel_rfl)) (by decide) (fun K hK => ?_)
        refine Kd.R_append_rows_step k81 (w0 := w) w.heap.size (by rfl) (.tmp 99) (.tmp 102) 29 81 (.agg #[(.int .i64 0), (.int .i64 0), (.int .i64 0)]) 24 rfl Try.underlying29 info81 rfl (by decide) (by omega) v281 y280 y283 _ _ _ (fun k_ => some k_ ≠ (.slice Ao91 x6_2.length co91 : Value).ownBlock ∧ some k_ ≠ (.slice Ao103 y277.length co103 : Value).ownBlock) (fun _ => False) rfl rfl ?aO ?aR (fun _ _ h => h) (fun _ h => h.elim) ?aF ?aB ?aS ?aL ?_
        (case aR => repeat (first | exact (by rw [KA95.out, Ny283.out]; exact Kd.C_drop (m := (x8_3 : Int).toNat) (c := co91) (Kd.R_reads' HO_6.out).2.2 hm95_.out hq95_.out) | (with_reducible refine Kd.C_alloc ?_ _) | (with_reducible refine Kd.C_drewN ?_ _) | (with_reducible refine Kd.C_drew ?_)))
        (case aB => exact (bl_ HB.out))
        (case aF => exact (fun k_ hk => ⟨Kd.fresh' (Kd.R_lt (rk_ HO_6.out)) k_ hk, Kd.fresh' (Kd.R_lt (rk_ HO279.out)) k_ hk⟩))
        (case aO => exact (rk_ HO282.out))
        (case aS => exact (below_size (bl_ HB.out)))
        (case aL => have := LMc89.out; omega)
        intro v288 w104 ho hb hg hat
        rw [← Ny287.out] at ho
        have n0_ := Aside0.mk (Kd.R_after (ok := (fun k_ => some k_ ≠ (.slice Ao103 y277.length co103 : Value).ownBlock)) (rk_ HO_6.out) hg hat)
        have n1_ := Aside0.mk (Kd.R_after (ok := (fun k_ => some k_ ≠ (.slice Ao91 x6_2.length co91 : Value).ownBlock)) (rk_ HO279.out) hg hat)
        have n2_ := Aside0.mk (hb)
        have n3_ := Aside0.mk (ho)
        clear HO_6
        clear HO279
        clear HB
        clear HO282
        have HO_6 := n0_
        have HO279 := n1_
        have HB := n2_
        have HO289 := n3_
        clear n0_ n1_ n2_ n3_
        clear ho hb hg hat
        refine hK.out _ _ ⟨(bc_ HB.out hw276_0 :), (bc_ HB.out hw276_1 :), (bc_ HB.out hw276_2 :)⟩ (fun hHeld => ?_)
        clear hK K
        refine norm_ (a' := ?_) ?_ ?_
        rotate_left
        ·show Act.put _ (some 103) _ = _
         simp only [pz_]
         rfl
        refine pu_ 15 6 #[t_,t_,t_,t_,t_,t_,t_,t_,t_,t_,t_,t_,t_,t_,t_,t_] HT_.out ?_
        refine done_ (done_of HT_.out (by kernel_rfl)) ?_
        try go_wp2
        go_roundg k3
        case measure => have := HJ2.out; have := HK2.out; have := HK3.out; omega
        case rel => exact ⟨(y287), (wrap64 (x7_2 + 1)), rs_, H', ⟨by have := HJ2.out; have := HK2.out; have := HK3.out; omega⟩, ⟨rk_ (Kd.R_mono HO289.out (fun _ hk => trivial))⟩, ⟨bl_ HB.out⟩⟩
       rw [if_pos c16] at H
       have c16b0 := decide_eq_true c16
       clear c16
       by_cases c17 : 0 ≤ x8_3
       case neg =>
        rw [if_neg c17] at H
        exact absurd H (by simp)
       rw [if_pos c17] at H
       have c17b0 := decide_eq_true c17
       clear c17
       by_cases c18 : 0 ≤ x7_2
       case neg =>
        rw [if_neg c18] at H
        exact absurd H (by simp)
       rw [if_pos c18] at H
       have c18b0 := decide_eq_true c18
       clear c18
       by_cases c19 : x7_2 < (l1.length : Int)
       case neg =>
        rw [if_neg c19] at H
        exact absurd H (by simp)
       rw [if_pos c19] at H
       have c19b0 := decide_eq_true c19
       clear c19
       replace H := Option.bind_eq_some_iff.mp H
       obtain ⟨t210, A200, H⟩ := H
       try dsimp only at H
       have A20 := Aside0.mk A200
       clear A200
       by_cases c21 : t210 = true
       case pos =>
        subst c21
        rw [if_pos rfl] at H
        have H' := Aside0.mk H
        clear H
        try go_wp2
        replace HO_6 := Aside0.mk (Kd.R_drew HO_6.out)
        replace HB := Aside0.mk (below_drew1 HB.out)
        obtain ⟨Ao23, co23, eo23⟩ := Kd.R_slice HO_6.out
        (first | subst eo23 | (injection eo23 with f1_ f2_ f3_; have f4_ := f1_.symm; have f5_ := f3_.symm; clear f1_ f2_ f3_; subst f4_; subst f5_))
        have p208 : 0 ≤ (x8_3 : Int) := od_
        have q208 : x8_3 < (x6_2.length : Int) := od_
        obtain ⟨ad208, e208, hx208_0, hx208_1, hx208_2⟩ := at_T81 (Kd.R_reads' HO_6.out).2.2 x8_3 p208 q208
        cases e208
        replace p208 := eq_true p208
        replace q208 := eq_true q208
        have p209 : 0 ≤ (x7_2 : Int) := od_
        have q209 : x7_2 < (l1.length : Int) := od_
        obtain ⟨ad209, e209, hx209_0, hx209_1, hx209_2⟩ := at_T81 HR1.out x7_2 p209 q209
        have hw209_2 := hx209_2
        have hw209_1 := hx209_1
        have hw209_0 := hx209_0
        cases e209
        replace hx209_0 := bc_ HB.out hx209_0
        replace hx209_1 := bc_ HB.out hx209_1
        replace hx209_2 := bc_ HB.out hx209_2
        replace p209 := eq_true p209
        replace q209 := eq_true q209
        refine start_ (n := 15) (S := fun w' => w'.cell? (ad208.add ((x8_3).toNat * 3)) = some (.int .i64 ((rd_T81 x6_2 x8_3).f0)) ∧ w'.cell? ⟨(ad208.add ((x8_3).toNat * 3)).block, (ad208.add ((x8_3).toNat * 3)).off + 1, none⟩ = some (.int .i64 ((rd_T81 x6_2 x8_3).f1)) ∧ w'.cell? ⟨(ad208.add ((x8_3).toNat * 3)).block, (ad208.add ((x8_3).toNat * 3)).off + 2, none⟩ = some (.int .i64 ((rd_T81 x6_2 x8_3).f2)) ∧ w'.cell? (ad209.add ((x7_2).toNat * 3)) = some (.int .i64 ((rd_T81 l1 x7_2).f0)) ∧ w'.cell? ⟨(ad209.add ((x7_2).toNat * 3)).block, (ad209.add ((x7_2).toNat * 3)).off + 1, none⟩ = some (.int .i64 ((rd_T81 l1 x7_2).f1)) ∧ w'.cell? ⟨(ad209.add ((x7_2).toNat * 3)).block, (ad209.add ((x7_2).toNat * 3)).off + 2, none⟩ = some (.int .i64 ((rd_T81 l1 x7_2).f2))) (ds := []) #[f_,f_,f_,f_,f_,f_,f_,f_,f_,f_,f_,f_,f_,f_,f_] (by kernel_rfl) rfl rfl ⟨hx208_0, hx208_1, hx208_2, (bc_ HB.out hw209_0 :), (bc_ HB.out hw209_1 :), (bc_ HB.out hw209_2 :)⟩ (fun hHeld => ?_); refine with_tabW spec_MergeTables.tab8 spec_MergeTables.bits8 (fun HT_ HW_ => ?_)
        generalize wr.drew = w22 at HO_6 HB hx208_0 hx208_1 hx208_2 hx209_0 hx209_1 hx209_2 hHeld ⊢
        refine pv_ 0 27 HT_.out ?_
        refine pv_ 1 28 HT_.out ?_
        refine pv_ 2 29 HT_.out ?_
        refine pv_ 3 30 HT_.out ?_
        refine pv_ 4 31 HT_.out ?_
        refine pv_ 5 32 HT_.out ?_
        refine pv_ 6 33 HT_.out ?_
        refine pv_ 7 34 HT_.out ?_
        refine pv_ 9 36 HT_.out ?_
        refine pv_ 10 37 HT_.out ?_
        refine pv_ 11 38 HT_.out ?_
        refine tv6_ 8 35 HT_.out HW_.out hHeld ?_
        refine tk6_ 12 39 #[t_,t_,t_,t_,t_,t_,t_,t_,t_,t_,t_,t_,t_,f_,f_] HT_.out HW_.out hHeld ?_
        refine one_ (i := 13) (N := some 40) #[t_,t_,t_,t_,t_,t_,t_,t_,t_,t_,t_,t_,t_,t_,f_] rfl rfl (one_of HT_.out (by kernel_rfl)) (by decide) (fun K hK => ?_)
        refine goes_ Try.func150 (by kernel_rfl) rfl #[.agg #[.int .i64 ((rd_T81 x6_2 x8_3).f0), .int .i64 ((rd_T81 x6_2 x8_3).f1), .int .i64 ((rd_T81 x6_2 x8_3).f2)], .agg #[.int .i64 ((rd_T81 l1 x7_2).f0), .int .i64 ((rd_T81 l1 x7_2).f1), .int .i64 ((rd_T81 l1 x7_2).f2)]] (by rfl) rfl rfl ag_ ?_
        with_reducible refine (spec_l16Before.calls ((rd_T81 x6_2 x8_3).f0) ((rd_T81 x6_2 x8_3).f1) ((rd_T81 x6_2 x8_3).f2) ((rd_T81 l1 x7_2).f0) ((rd_T81 l1 x7_2).f1) ((rd_T81 l1 x7_2).f2) true _ A20.out).mono ?_
        rintro e w24 ⟨rfl, hb⟩
        have HS0_ := (hb.cell (World.block_lt_of_cell? _ _ (hHeld.1))).trans (hHeld.1)
        have HS1_ := (hb.cell (World.block_lt_of_cell? _ _ (hHeld.2.1))).trans (hHeld.2.1)
        have HS2_ := (hb.cell (World.block_lt_of_cell? _ _ (hHeld.2.2.1))).trans (hHeld.2.2.1)
        refine ⟨_, rfl, ?_⟩
        replace HO_6 := Aside0.mk (Kd.R_below (rk_ HO_6.out) hb)
        replace HB := Aside0.mk (below_step (bl_ HB.out) hb)
        (try clear hb)
        (try clear hb2)
        (try clear hk)
        (try clear hi)
        refine hK.out _ _ ⟨HS0_, HS1_, HS2_, (bc_ HB.out hw209_0 :), (bc_ HB.out hw209_1 :), (bc_ HB.out hw209_2 :)⟩ (fun hHeld => ?_)
        clear hK K
        refine norm_ (a' := ?_) ?_ ?_
        rotate_left
        ·show Act.put _ (some 40) _ = _
         simp only [pz_]
         rfl
        refine pu_ 14 41 #[t_,t_,t_,t_,t_,t_,t_,t_,t_,t_,t_,t_,t_,t_,t_] HT_.out ?_
        refine done_ (done_of HT_.out (by kernel_rfl)) ?_
        try go_wp2
        go_roundg k3
        case measure => have := HJ2.out; have := HK2.out; have := HK3.out; omega
        case rel => exact ⟨(wrap64 (x8_3 + 1)), rs_, H', ⟨by have := HJ2.out; have := HK2.out; have := HK3.out; omega⟩, ⟨rk_ HO_6.out⟩, ⟨bl_ HB.out⟩⟩
       replace c21 := Bool.eq_false_iff.mpr c21
       subst c21
       rw [if_neg (show ¬ (false = true) by decide)] at H
       by_cases c25 : ((rd_T81 x6_2 x8_3).f0) = ((rd_T81 l1 x7_2).f0)
       case neg =>
        rw [if_neg c25] at H
        have c25b0 := beq_eq_false_iff_ne.mpr c25
        have c25b1 := bne_iff_ne.mpr c25
        obtain ⟨y242, hy242⟩ : ∃ y_ : List (S81), y_ = (([] : List (S81))) := ⟨_, rfl⟩
        replace H : (if x8_3 ≤ (x6_2.length : Int) then ((some (x6_2.take (x8_3 : Int).toNat : List (S81))).bind fun y245 => (if y242.length + y245.length < 5864062014805 then ((some (y242 ++ y245 : List (S81))).bind fun y249 => ((some (([(⟨(rd_T81 l1 x7_2).f0, (rd_T81 l1 x7_2).f1, (rd_T81 l1 x7_2).f2⟩ : S81)] : List (S81)) : List (S81))).bind fun y253 => (if y249.length + y253.length < 5864062014805 then ((some (y249 ++ y253 : List (S81))).bind fun y256 => ((some (x6_2.drop (x8_3 : Int).toNat : List (S81))).bind fun y259 => (if y256.length + y259.length < 5864062014805 then (spec_MergeTables.l0 k3 l0 l1 (y256 ++ y259) (wrap64 (x7_2 + 1))) else (none)))) else (none)))) else (none))) else (none)) = some (r1, r2) := by first | (rw [hy242]; with_reducible exact H) | (have H2_ := (Option.bind_some _ _).symm.trans H; rw [hy242]; with_reducible exact H2_) | (have H2_ := (Option.bind_some _ _).symm.trans H; with_reducible exact H2_) | with_reducible exact H | (rw [hy242]; exact H) | exact H
        have Ny242 := Aside0.mk hy242
        clear hy242
        have c58b0 := eq_true (od_ : 0 ≤ x8_3)
        by_cases c59 : x8_3 ≤ (x6_2.length : Int)
        case neg =>
         rw [if_neg c59] at H
         exact absurd H (by simp)
        rw [if_pos c59] at H
        have c59b0 := eq_true c59
        have c59b1 := decide_eq_true c59
        clear c59
        obtain ⟨y245, hy245⟩ : ∃ y_ : List (S81), y_ = (x6_2.take (x8_3 : Int).toNat) := ⟨_, rfl⟩
        replace H : (if y242.length + y245.length < 5864062014805 then ((some (y242 ++ y245 : List (S81))).bind fun y249 => ((some (([(⟨(rd_T81 l1 x7_2).f0, (rd_T81 l1 x7_2).f1, (rd_T81 l1 x7_2).f2⟩ : S81)] : List (S81)) : List (S81))).bind fun y253 => (if y249.length + y253.length < 5864062014805 then ((some (y249 ++ y253 : List (S81))).bind fun y256 => ((some (x6_2.drop (x8_3 : Int).toNat : List (S81))).bind fun y259 => (if y256.length + y259.length < 5864062014805 then (spec_MergeTables.l0 k3 l0 l1 (y256 ++ y259) (wrap64 (x7_2 + 1))) else (none)))) else (none)))) else (none)) = some (r1, r2) := by first | (rw [hy245]; with_reducible exact H) | (have H2_ := (Option.bind_some _ _).symm.trans H; rw [hy245]; with_reducible exact H2_) | (have H2_ := (Option.bind_some _ _).symm.trans H; with_reducible exact H2_) | with_reducible exact H | (rw [hy245]; exact H) | exact H
        have Ny245 := Aside0.mk hy245
        clear hy245
        by_cases c60 : y242.length + y245.length < 5864062014805
        case neg =>
         rw [if_neg c60] at H
         exact absurd H (by simp)
        rw [if_pos c60] at H
        have LMc60 := Aside0.mk c60
        clear c60
        obtain ⟨y249, hy249⟩ : ∃ y_ : List (S81), y_ = (y242 ++ y245) := ⟨_, rfl⟩
        replace H : ((some (([(⟨(rd_T81 l1 x7_2).f0, (rd_T81 l1 x7_2).f1, (rd_T81 l1 x7_2).f2⟩ : S81)] : List (S81)) : List (S81))).bind fun y253 => (if y249.length + y253.length < 5864062014805 then ((some (y249 ++ y253 : List (S81))).bind fun y256 => ((some (x6_2.drop (x8_3 : Int).toNat : List (S81))).bind fun y259 => (if y256.length + y259.length < 5864062014805 then (spec_MergeTables.l0 k3 l0 l1 (y256 ++ y259) (wrap64 (x7_2 + 1))) else (none)))) else (none))) = some (r1, r2) := by first | (rw [hy249]; with_reducible exact H) | (have H2_ := (Option.bind_some _ _).symm.trans H; rw [hy249]; with_reducible exact H2_) | (have H2_ := (Option.bind_some _ _).symm.trans H; with_reducible exact H2_) | with_reducible exact H | (rw [hy249]; exact H) | exact H
        have Ny249 := Aside0.mk hy249
        clear hy249
        obtain ⟨y253, hy253⟩ : ∃ y_ : List (S81), y_ = (([(⟨(rd_T81 l1 x7_2).f0, (rd_T81 l1 x7_2).f1, (rd_T81 l1 x7_2).f2⟩ : S81)] : List (S81))) := ⟨_, rfl⟩
        replace H : (if y249.length + y253.length < 5864062014805 then ((some (y249 ++ y253 : List (S81))).bind fun y256 => ((some (x6_2.drop (x8_3 : Int).toNat : List (S81))).bind fun y259 => (if y256.length + y259.length < 5864062014805 then (spec_MergeTables.l0 k3 l0 l1 (y256 ++ y259) (wrap64 (x7_2 + 1))) else (none)))) else (none)) = some (r1, r2) := by first | (rw [hy253]; with_reducible exact H) | (have H2_ := (Option.bind_some _ _).symm.trans H; rw [hy253]; with_reducible exact H2_) | (have H2_ := (Option.bind_some _ _).symm.trans H; with_reducible exact H2_) | with_reducible exact H | (rw [hy253]; exact H) | exact H
        have Ny253 := Aside0.mk hy253
        clear hy253
        by_cases c61 : y249.length + y253.length < 5864062014805
        case neg =>
         rw [if_neg c61] at H
         exact absurd H (by simp)
        rw [if_pos c61] at H
        have LMc61 := Aside0.mk c61
        clear c61
        obtain ⟨y256, hy256⟩ : ∃ y_ : List (S81), y_ = (y249 ++ y253) := ⟨_, rfl⟩
        replace H : ((some (x6_2.drop (x8_3 : Int).toNat : List (S81))).bind fun y259 => (if y256.length + y259.length < 5864062014805 then (spec_MergeTables.l0 k3 l0 l1 (y256 ++ y259) (wrap64 (x7_2 + 1))) else (none))) = some (r1, r2) := by first | (rw [hy256]; with_reducible exact H) | (have H2_ := (Option.bind_some _ _).symm.trans H; rw [hy256]; with_reducible exact H2_) | (have H2_ := (Option.bind_some _ _).symm.trans H; with_reducible exact H2_) | with_reducible exact H | (rw [hy256]; exact H) | exact H
        have Ny256 := Aside0.mk hy256
        clear hy256
        have c62b0 := eq_true (od_ : 0 ≤ x8_3)
        have c63b0 := eq_true (od_ : x8_3 ≤ (x6_2.length : Int))
        obtain ⟨y259, hy259⟩ : ∃ y_ : List (S81), y_ = (x6_2.drop (x8_3 : Int).toNat) := ⟨_, rfl⟩
        replace H : (if y256.length + y259.length < 5864062014805 then (spec_MergeTables.l0 k3 l0 l1 (y256 ++ y259) (wrap64 (x7_2 + 1))) else (none)) = some (r1, r2) := by first | (rw [hy259]; with_reducible exact H) | (have H2_ := (Option.bind_some _ _).symm.trans H; rw [hy259]; with_reducible exact H2_) | (have H2_ := (Option.bind_some _ _).symm.trans H; with_reducible exact H2_) | with_reducible exact H | (rw [hy259]; exact H) | exact H
        have Ny259 := Aside0.mk hy259
        clear hy259
        by_cases c64 : y256.length + y259.length < 5864062014805
        case neg =>
         rw [if_neg c64] at H
         exact absurd H (by simp)
        rw [if_pos c64] at H
        have LMc64 := Aside0.mk c64
        clear c64
        obtain ⟨y263, hy263⟩ : ∃ y_ : List (S81), y_ = (y256 ++ y259) := ⟨_, rfl⟩
        replace H : (spec_MergeTables.l0 k3 l0 l1 y263 (wrap64 (x7_2 + 1))) = some (r1, r2) := by first | (rw [hy263]; with_reducible exact H) | (have H2_ := (Option.bind_some _ _).symm.trans H; rw [hy263]; with_reducible exact H2_) | (have H2_ := (Option.bind_some _ _).symm.trans H; with_reducible exact H2_) | with_reducible exact H | (rw [hy263]; exact H) | exact H
        have Ny263 := Aside0.mk hy263
        clear hy263
        have H' := Aside0.mk H
        clear H
        try go_wp2
        replace HO_6 := Aside0.mk (Kd.R_drew HO_6.out)
        replace HB := Aside0.mk (below_drew1 HB.out)
        obtain ⟨Ao66, co66, eo66⟩ := Kd.R_slice HO_6.out
        (first | subst eo66 | (injection eo66 with f1_ f2_ f3_; have f4_ := f1_.symm; have f5_ := f3_.symm; clear f1_ f2_ f3_; subst f4_; subst f5_))
        have p208 : 0 ≤ (x8_3 : Int) := od_
        have q208 : x8_3 < (x6_2.length : Int) := od_
        obtain ⟨ad208, e208, hx208_0, hx208_1, hx208_2⟩ := at_T81 (Kd.R_reads' HO_6.out).2.2 x8_3 p208 q208
        cases e208
        replace p208 := eq_true p208
        replace q208 := eq_true q208
        have p209 : 0 ≤ (x7_2 : Int) := od_
        have q209 : x7_2 < (l1.length : Int) := od_
        obtain ⟨ad209, e209, hx209_0, hx209_1, hx209_2⟩ := at_T81 HR1.out x7_2 p209 q209
        have hw209_2 := hx209_2
        have hw209_1 := hx209_1
        have hw209_0 := hx209_0
        cases e209
        replace hx209_0 := bc_ HB.out hx209_0
        replace hx209_1 := bc_ HB.out hx209_1
        replace hx209_2 := bc_ HB.out hx209_2
        replace p209 := eq_true p209
        replace q209 := eq_true q209
        refine start_ (n := 15) (S := fun w' => w'.cell? (ad208.add ((x8_3).toNat * 3)) = some (.int .i64 ((rd_T81 x6_2 x8_3).f0)) ∧ w'.cell? ⟨(ad208.add ((x8_3).toNat * 3)).block, (ad208.add ((x8_3).toNat * 3)).off + 1, none⟩ = some (.int .i64 ((rd_T81 x6_2 x8_3).f1)) ∧ w'.cell? ⟨(ad208.add ((x8_3).toNat * 3)).block, (ad208.add ((x8_3).toNat * 3)).off + 2, none⟩ = some (.int .i64 ((rd_T81 x6_2 x8_3).f2)) ∧ w'.cell? (ad209.add ((x7_2).toNat * 3)) = some (.int .i64 ((rd_T81 l1 x7_2).f0)) ∧ w'.cell? ⟨(ad209.add ((x7_2).toNat * 3)).block, (ad209.add ((x7_2).toNat * 3)).off + 1, none⟩ = some (.int .i64 ((rd_T81 l1 x7_2).f1)) ∧ w'.cell? ⟨(ad209.add ((x7_2).toNat * 3)).block, (ad209.add ((x7_2).toNat * 3)).off + 2, none⟩ = some (.int .i64 ((rd_T81 l1 x7_2).f2))) (ds := []) #[f_,f_,f_,f_,f_,f_,f_,f_,f_,f_,f_,f_,f_,f_,f_] (by kernel_rfl) rfl rfl ⟨hx208_0, hx208_1, hx208_2, (bc_ HB.out hw209_0 :), (bc_ HB.out hw209_1 :), (bc_ HB.out hw209_2 :)⟩ (fun hHeld => ?_); refine with_tabW spec_MergeTables.tab8 spec_MergeTables.bits8 (fun HT_ HW_ => ?_)
        generalize wr.drew = w65 at HO_6 HB hx208_0 hx208_1 hx208_2 hx209_0 hx209_1 hx209_2 hHeld ⊢
        refine pv_ 0 27 HT_.out ?_
        refine pv_ 1 28 HT_.out ?_
        refine pv_ 2 29 HT_.out ?_
        refine pv_ 3 30 HT_.out ?_
        refine pv_ 4 31 HT_.out ?_
        refine pv_ 5 32 HT_.out ?_
        refine pv_ 6 33 HT_.out ?_
        refine pv_ 7 34 HT_.out ?_
        refine pv_ 9 36 HT_.out ?_
        refine pv_ 10 37 HT_.out ?_
        refine pv_ 11 38 HT_.out ?_
        refine tv6_ 8 35 HT_.out HW_.out hHeld ?_
        refine tk6_ 12 39 #[t_,t_,t_,t_,t_,t_,t_,t_,t_,t_,t_,t_,t_,f_,f_] HT_.out HW_.out hHeld ?_
        refine one_ (i := 13) (N := some 40) #[t_,t_,t_,t_,t_,t_,t_,t_,t_,t_,t_,t_,t_,t_,f_] rfl rfl (one_of HT_.out (by kernel_rfl)) (by decide) (fun K hK => ?_)
        refine goes_ Try.func150 (by kernel_rfl) rfl #[.agg #[.int .i64 ((rd_T81 x6_2 x8_3).f0), .int .i64 ((rd_T81 x6_2 x8_3).f1), .int .i64 ((rd_T81 x6_2 x8_3).f2)], .agg #[.int .i64 ((rd_T81 l1 x7_2).f0), .int .i64 ((rd_T81 l1 x7_2).f1), .int .i64 ((rd_T81 l1 x7_2).f2)]] (by rfl) rfl rfl ag_ ?_
        with_reducible refine (spec_l16Before.calls ((rd_T81 x6_2 x8_3).f0) ((rd_T81 x6_2 x8_3).f1) ((rd_T81 x6_2 x8_3).f2) ((rd_T81 l1 x7_2).f0) ((rd_T81 l1 x7_2).f1) ((rd_T81 l1 x7_2).f2) false _ A20.out).mono ?_
        rintro e w67 ⟨rfl, hb⟩
        have HS0_ := (hb.cell (World.block_lt_of_cell? _ _ (hHeld.1))).trans (hHeld.1)
        have HS1_ := (hb.cell (World.block_lt_of_cell? _ _ (hHeld.2.1))).trans (hHeld.2.1)
        have HS2_ := (hb.cell (World.block_lt_of_cell? _ _ (hHeld.2.2.1))).trans (hHeld.2.2.1)
        refine ⟨_, rfl, ?_⟩
        replace HO_6 := Aside0.mk (Kd.R_below (rk_ HO_6.out) hb)
        replace HB := Aside0.mk (below_step (bl_ HB.out) hb)
        (try clear hb)
        (try clear hb2)
        (try clear hk)
        (try clear hi)
        refine hK.out _ _ ⟨HS0_, HS1_, HS2_, (bc_ HB.out hw209_0 :), (bc_ HB.out hw209_1 :), (bc_ HB.out hw209_2 :)⟩ (fun hHeld => ?_)
        clear hK K
        refine norm_ (a' := ?_) ?_ ?_
        rotate_left
        ·show Act.put _ (some 40) _ = _
         simp only [pz_]
         rfl
        refine pu_ 14 41 #[t_,t_,t_,t_,t_,t_,t_,t_,t_,t_,t_,t_,t_,t_,t_] HT_.out ?_
        refine done_ (done_of HT_.out (by kernel_rfl)) ?_
        try go_wp2
        replace HO_6 := Aside0.mk (Kd.R_drew HO_6.out)
        replace HB := Aside0.mk (below_drew1 HB.out)
        have p211 : 0 ≤ (x8_3 : Int) := od_
        have q211 : x8_3 < (x6_2.length : Int) := od_
        obtain ⟨ad211, e211, hx211_0, hx211_1, hx211_2⟩ := at_T81 (Kd.R_reads' HO_6.out).2.2 x8_3 p211 q211
        obtain rfl : ad208 = ad211 := (by injection e211)
        replace p211 := eq_true p211
        replace q211 := eq_true q211
        have p212 : 0 ≤ (x7_2 : Int) := od_
        have q212 : x7_2 < (l1.length : Int) := od_
        obtain ⟨ad212, e212, hx212_0, hx212_1, hx212_2⟩ := at_T81 HR1.out x7_2 p212 q212
        have hw212_2 := hx212_2
        have hw212_1 := hx212_1
        have hw212_0 := hx212_0
        obtain rfl : ad209 = ad212 := (by injection e212)
        replace hx212_0 := bc_ HB.out hx212_0
        replace hx212_1 := bc_ HB.out hx212_1
        replace hx212_2 := bc_ HB.out hx212_2
        replace p212 := eq_true p212
        replace q212 := eq_true q212
        refine start_ (n := 30) (S := fun w' => w'.cell? (ad208.add ((x8_3).toNat * 3)) = some (.int .i64 ((rd_T81 x6_2 x8_3).f0)) ∧ w'.cell? ⟨(ad208.add ((x8_3).toNat * 3)).block, (ad208.add ((x8_3).toNat * 3)).off + 1, none⟩ = some (.int .i64 ((rd_T81 x6_2 x8_3).f1)) ∧ w'.cell? ⟨(ad208.add ((x8_3).toNat * 3)).block, (ad208.add ((x8_3).toNat * 3)).off + 2, none⟩ = some (.int .i64 ((rd_T81 x6_2 x8_3).f2)) ∧ w'.cell? (ad209.add ((x7_2).toNat * 3)) = some (.int .i64 ((rd_T81 l1 x7_2).f0)) ∧ w'.cell? ⟨(ad209.add ((x7_2).toNat * 3)).block, (ad209.add ((x7_2).toNat * 3)).off + 1, none⟩ = some (.int .i64 ((rd_T81 l1 x7_2).f1)) ∧ w'.cell? ⟨(ad209.add ((x7_2).toNat * 3)).block, (ad209.add ((x7_2).toNat * 3)).off + 2, none⟩ = some (.int .i64 ((rd_T81 l1 x7_2).f2))) (ds := []) #[f_,f_,f_,f_,f_,f_,f_,f_,f_,f_,f_,f_,f_,f_,f_,f_,f_,f_,f_,f_,f_,f_,f_,f_,f_,f_,f_,f_,f_,f_] (by kernel_rfl) rfl rfl ⟨hx211_0, hx211_1, hx211_2, (bc_ HB.out hw212_0 :), (bc_ HB.out hw212_1 :), (bc_ HB.out hw212_2 :)⟩ (fun hHeld => ?_); refine with_tabW spec_MergeTables.tab10 spec_MergeTables.bits10 (fun HT_ HW_ => ?_)
        generalize w67.drew = w68 at HO_6 HB hx211_0 hx211_1 hx211_2 hx212_0 hx212_1 hx212_2 hHeld ⊢
        refine pv_ 0 44 HT_.out ?_
        refine pv_ 1 45 HT_.out ?_
        refine pv_ 2 46 HT_.out ?_
        refine pv_ 3 47 HT_.out ?_
        refine pv_ 4 48 HT_.out ?_
        refine pv_ 5 49 HT_.out ?_
        refine pv_ 6 50 HT_.out ?_
        refine pv_ 7 51 HT_.out ?_
        refine pv_ 8 52 HT_.out ?_
        refine pv_ 10 54 HT_.out ?_
        refine pv_ 11 55 HT_.out ?_
        refine pv_ 12 56 HT_.out ?_
        refine pv_ 13 57 HT_.out ?_
        refine tv6_ 9 53 HT_.out HW_.out hHeld ?_
        refine tv6_ 14 58 HT_.out HW_.out hHeld ?_
        refine pv_ 15 59 HT_.out ?_
        refine pv_ 16 60 HT_.out ?_
        refine pv_ 17 61 HT_.out ?_
        refine uv_ 18 62 HT_.out ?_
        refine uv_ 19 63 HT_.out ?_
        refine uv_ 20 64 HT_.out ?_
        refine uv_ 21 65 HT_.out ?_
        refine uv_ 22 66 HT_.out ?_
        refine uv_ 23 67 HT_.out ?_
        refine uv_ 24 68 HT_.out ?_
        refine uv_ 25 69 HT_.out ?_
        refine uv_ 26 70 HT_.out ?_
        refine uv_ 27 71 HT_.out ?_
        refine uv_ 28 72 HT_.out ?_
        refine pu_ 29 73 #[t_,t_,t_,t_,t_,t_,t_,t_,t_,t_,t_,t_,t_,t_,t_,t_,t_,t_,t_,t_,t_,t_,t_,t_,t_,t_,t_,t_,t_,t_] HT_.out ?_
        refine done_ (done_of HT_.out (by kernel_rfl)) ?_
        try go_wp2
        replace HO_6 := Aside0.mk (Kd.R_drew HO_6.out)
        replace HB := Aside0.mk (below_drew1 HB.out)
        have q70 : (x8_3 : Int) ≤ ((x6_2.length : Int) : Int) := od_
        obtain ⟨i070, hi070, _, hsz70, _⟩ := info_parts info81
        have hroom70 : x6_2.length ≤ co66 := (by have h_ := Kd.R_reads' HO_6.out; omega)
        have hC70 : Kd.C k81 _ (some ad208) x6_2.length x6_2 := (Kd.R_reads' HO_6.out).2.2
        have hm70_ := Aside0.mk (show (x8_3 : Int).toNat ≤ x6_2.length from by omega)
        have hq70_ := Aside0.mk hroom70
        have hcut70 := cut_to (P := Try.prog) 29 81 .i64 Try.underlying29 hi070 (some ad208) x6_2.length co66 x8_3 od_ q70 hroom70
        have hr70 := Kd.C_take (m := (x8_3 : Int).toNat) hC70 (by omega)
        have hy70 : y245.length = (x8_3 : Int).toNat := (by rw [Ny245.out, List.length_take]; omega)
        rw [← Ny245.out] at hr70
        rw [← hy70] at hcut70
        have HR248 := Aside0.mk hr70
        have HC248 := Aside0.mk (show y245.length ≤ co66 from by omega)
        clear hr70 hC70 hroom70 hi070 hsz70
        have KY70 := Aside0.mk hy70
        clear hy70
        replace q70 := eq_true q70
        have p252 : 0 ≤ (x7_2 : Int) := od_
        have q252 : x7_2 < (l1.length : Int) := od_
        obtain ⟨ad252, e252, hx252_0, hx252_1, hx252_2⟩ := at_T81 HR1.out x7_2 p252 q252
        have hw252_2 := hx252_2
        have hw252_1 := hx252_1
        have hw252_0 := hx252_0
        obtain rfl : ad209 = ad252 := (by injection e252)
        replace hx252_0 := bc_ HB.out hx252_0
        replace hx252_1 := bc_ HB.out hx252_1
        replace hx252_2 := bc_ HB.out hx252_2
        replace p252 := eq_true p252
        replace q252 := eq_true q252
        have q71 : (x8_3 : Int) ≤ ((x6_2.length : Int) : Int) := od_
        obtain ⟨i071, hi071, _, hsz71, _⟩ := info_parts info81
        have hroom71 : x6_2.length ≤ co66 := (by have h_ := Kd.R_reads' HO_6.out; omega)
        have hC71 : Kd.C k81 _ (some ad208) x6_2.length x6_2 := (Kd.R_reads' HO_6.out).2.2
        have q071 : (0 : Int) ≤ (x8_3 : Int) := od_
        have hm71_ := Aside0.mk (show (x8_3 : Int).toNat ≤ x6_2.length from by omega)
        have hq71_ := Aside0.mk hroom71
        have hcut71 := cut_from (P := Try.prog) 29 81 .i64 Try.underlying29 hi071 3 hsz71 (some ad208) x6_2.length co66 x8_3 q071 q71
        have hr71 := Kd.C_drop (m := (x8_3 : Int).toNat) (c := co66) hC71 (by omega) hroom71
        obtain ⟨A71, hA71⟩ : ∃ A1, A1 = (if co66 = (x8_3 : Int).toNat then (some ad208) else ((some ad208) : Option Addr).map (·.add ((x8_3 : Int).toNat * 3))) := ⟨_, rfl⟩
        obtain ⟨c71, hc71⟩ : ∃ c1, c1 = co66 - (x8_3 : Int).toNat := ⟨_, rfl⟩
        have hy71 : y259.length = x6_2.length - (x8_3 : Int).toNat := (by rw [Ny259.out, List.length_drop] <;> omega)
        rw [show (x6_2).drop (x8_3 : Int).toNat = y259 from Ny259.out.symm] at hr71
        replace hr71 : Kd.C k81 _ A71 y259.length y259 := (by rw [hA71]; exact hr71)
        rw [← hy71, ← hA71, ← hc71] at hcut71
        have HR262 := Aside0.mk hr71
        have HC262 := Aside0.mk (show y259.length ≤ c71 from by rw [hy71, hc71]; exact Nat.sub_le_sub_right hroom71 _)
        clear hr71 hC71 hroom71 hi071 hsz71 hc71
        have KY71 := Aside0.mk hy71
        have KA71 := Aside0.mk hA71
        clear hy71 hA71
        replace q71 := eq_true q71
        refine start_ (n := 16) (S := fun w' => w'.cell? (ad209.add ((x7_2).toNat * 3)) = some (.int .i64 ((rd_T81 l1 x7_2).f0)) ∧ w'.cell? ⟨(ad209.add ((x7_2).toNat * 3)).block, (ad209.add ((x7_2).toNat * 3)).off + 1, none⟩ = some (.int .i64 ((rd_T81 l1 x7_2).f1)) ∧ w'.cell? ⟨(ad209.add ((x7_2).toNat * 3)).block, (ad209.add ((x7_2).toNat * 3)).off + 2, none⟩ = some (.int .i64 ((rd_T81 l1 x7_2).f2))) (ds := []) #[f_,f_,f_,f_,f_,f_,f_,f_,f_,f_,f_,f_,f_,f_,f_,f_] (by kernel_rfl) rfl rfl ⟨(bc_ HB.out hw252_0 :), (bc_ HB.out hw252_1 :), (bc_ HB.out hw252_2 :)⟩ (fun hHeld => ?_); refine with_tabW spec_MergeTables.tab12 spec_MergeTables.bits12 (fun HT_ HW_ => ?_)
        generalize w68.drew = w69 at HO_6 HB HR248 HR262 hx252_0 hx252_1 hx252_2 hHeld ⊢
        refine pv_ 1 90 HT_.out ?_
        refine pv_ 2 91 HT_.out ?_
        refine pv_ 3 92 HT_.out ?_
        refine pv_ 5 94 HT_.out ?_
        refine pv_ 6 95 HT_.out ?_
        refine pv_ 7 96 HT_.out ?_
        refine pv_ 11 100 HT_.out ?_
        refine pv_ 12 101 HT_.out ?_
        refine pv_ 13 102 HT_.out ?_
        refine tk3_ 8 97 #[f_,t_,t_,t_,f_,t_,t_,t_,t_,f_,f_,t_,t_,t_,f_,f_] HT_.out HW_.out hHeld ?_
        refine join_ (σ := Value × Value × Value) 3 #[t_,t_,t_,t_,t_,t_,t_,t_,t_,t_,f_,t_,t_,t_,f_,f_] (fun s_ => [(89, s_.1), (93, s_.2.1), (98, s_.2.2)]) (fun s_ w' => (w'.cell? (ad209.add ((x7_2).toNat * 3)) = some (.int .i64 ((rd_T81 l1 x7_2).f0)) ∧ w'.cell? ⟨(ad209.add ((x7_2).toNat * 3)).block, (ad209.add ((x7_2).toNat * 3)).off + 1, none⟩ = some (.int .i64 ((rd_T81 l1 x7_2).f1)) ∧ w'.cell? ⟨(ad209.add ((x7_2).toNat * 3)).block, (ad209.add ((x7_2).toNat * 3)).off + 2, none⟩ = some (.int .i64 ((rd_T81 l1 x7_2).f2))) ∧ (Kd.R k81 81 w' w.heap.size (fun k_ => some k_ ≠ (s_.2.2 : Value).ownBlock ∧ some k_ ≠ (.slice (some ad208) x6_2.length co66 : Value).ownBlock) s_.2.1 y249) ∧ (Kd.R k81 81 w' w.heap.size (fun k_ => some k_ ≠ (s_.2.1 : Value).ownBlock ∧ some k_ ≠ (.slice (some ad208) x6_2.length co66 : Value).ownBlock) s_.2.2 y253) ∧ (Kd.R k81 81 w' w.heap.size (fun k_ => some k_ ≠ (s_.2.1 : Value).ownBlock ∧ some k_ ≠ (s_.2.2 : Value).ownBlock) (.slice (some ad208) x6_2.length co66) x6_2) ∧ (Below w.heap.size w w')) ?_ ?_
        rotate_left
        ·intro hCont
         refine two_ (i := 0) (j := 9) (Ni := some 89) (Nj := some 98) #[t_,t_,t_,t_,f_,t_,t_,t_,t_,f_,f_,t_,t_,t_,f_,f_] #[f_,t_,t_,t_,f_,t_,t_,t_,t_,t_,f_,t_,t_,t_,f_,f_] rfl rfl rfl rfl (two_of HT_.out (by kernel_rfl)) (by decide) (by decide) (fun K hK => ?_) (fun K hK => ?_)
         ·skip
          refine Kd.R_lit_step k81 _ 81 ?hg (N := 89) ?hd (xs := ([] : List (S81))) (inner := []) (ok := fun _ => True) (okp := fun _ => True) ?hr ?hp (fun _ hk => hk) trivial (Below.refl _ _) (Nat.le_refl _) (by simp) ?_; (case hd => rfl); (case hg => rfl); (case hr => first | (go_simp; done) | (go_simp; rfl)); (case hp => exact (Reps.none _ _))
          intro v243 w72 ho73 hb hg_ hnew_
          clear hg_ hnew_
          (first | rw [← Ny242.out] at ho73 | (simp only [Int.reduceToNat] at ho73; rw [← Ny242.out] at ho73))
          have HO244 := Aside0.mk (Kd.R_lower (Kd.R_new' ho73 (Kd.R_lt (rk_ HO_6.out))) (below_size (bl_ HB.out)))
          replace HO_6 := Aside0.mk (Kd.R_elder' (rk_ HO_6.out) (Kd.R_base ho73) hb)
          replace HB := Aside0.mk (below_step (bl_ HB.out) hb)
          clear hb ho73
          refine hK.out _ _ ⟨(bc_ HB.out hw252_0 :), (bc_ HB.out hw252_1 :), (bc_ HB.out hw252_2 :)⟩ (fun hHeld => ?_)
          clear hK K
          refine norm_ (a' := ?_) ?_ ?_
          rotate_left
          ·show Act.put _ (some 89) _ = _
           simp only [pz_]
           rfl
          refine two_ (i := 4) (j := 9) (Ni := some 93) (Nj := some 98) #[t_,t_,t_,t_,t_,t_,t_,t_,t_,f_,f_,t_,t_,t_,f_,f_] #[t_,t_,t_,t_,f_,t_,t_,t_,t_,t_,f_,t_,t_,t_,f_,f_] rfl rfl rfl rfl (two_of HT_.out (by kernel_rfl)) (by decide) (by decide) (fun K hK => ?_) (fun K hK => ?_)
          ·skip
           refine Kd.R_append_rows_step k81 (w0 := w) w.heap.size (by rfl) (.tmp 89) (.tmp 92) 29 81 (.agg #[(.int .i64 0), (.int .i64 0), (.int .i64 0)]) 24 rfl Try.underlying29 info81 rfl (by decide) (by omega) v243 y242 y245 _ _ _ (fun k_ => some k_ ≠ (.slice (some ad208) x6_2.length co66 : Value).ownBlock) (fun _ => False) rfl rfl ?aO ?aR (fun _ _ h => h) (fun _ h => h.elim) ?aF ?aB ?aS ?aL ?_
           (case aR => exact r20_ Ny245.out HO_6.out)
           (case aB => exact (bl_ HB.out))
           (case aF => exact (fun k_ hk => Kd.fresh' (Kd.R_lt (rk_ HO_6.out)) k_ hk))
           (case aO => exact (rk_ (Kd.R_mono HO244.out (fun _ hk => hk.2))))
           (case aS => exact (below_size (bl_ HB.out)))
           (case aL => have := LMc60.out; omega)
           intro v250 w74 ho hb hg hat
           rw [← Ny249.out] at ho
           have n0_ := Aside0.mk (Kd.R_after (ok := (fun _ => True)) (rk_ HO_6.out) hg hat)
           have n1_ := Aside0.mk (hb)
           have n2_ := Aside0.mk (ho)
           clear HO_6
           clear HB
           clear HO244
           have HO_6 := n0_
           have HB := n1_
           have HO251 := n2_
           clear n0_ n1_ n2_
           clear ho hb hg hat
           refine hK.out _ _ ⟨(bc_ HB.out hw252_0 :), (bc_ HB.out hw252_1 :), (bc_ HB.out hw252_2 :)⟩ (fun hHeld => ?_)
           clear hK K
           refine norm_ (a' := ?_) ?_ ?_
           rotate_left
           ·show Act.put _ (some 93) _ = _
            simp only [pz_]
            rfl
           refine one_ (i := 9) (N := some 98) #[t_,t_,t_,t_,t_,t_,t_,t_,t_,t_,f_,t_,t_,t_,f_,f_] rfl rfl (one_of HT_.out (by kernel_rfl)) (by decide) (fun K hK => ?_)
           refine Kd.R_lit_step k81 _ 81 ?hg (N := 98) ?hd (xs := ([(⟨(rd_T81 l1 x7_2).f0, (rd_T81 l1 x7_2).f1, (rd_T81 l1 x7_2).f2⟩ : S81)] : List (S81))) (inner := [.int .i64 ((rd_T81 l1 x7_2).f0), .int .i64 ((rd_T81 l1 x7_2).f1), .int .i64 ((rd_T81 l1 x7_2).f2)]) (ok := fun _ => True) (okp := fun _ => True) ?hr ?hp (fun _ hk => hk) trivial (Below.refl _ _) (Nat.le_refl _) (by simp) ?_; (case hd => rfl); (case hg => rfl); (case hr => first | (go_simp; done) | (go_simp; rfl)); (case hp => exact (Reps.c3 (show Kd.M k81 _ _ _ (⟨(rd_T81 l1 x7_2).f0, (rd_T81 l1 x7_2).f1, (rd_T81 l1 x7_2).f2⟩ : S81) [.int .i64 ((rd_T81 l1 x7_2).f0), .int .i64 ((rd_T81 l1 x7_2).f1), .int .i64 ((rd_T81 l1 x7_2).f2)] from (k81_mkM _ _ _ (⟨(rd_T81 l1 x7_2).f0, (rd_T81 l1 x7_2).f1, (rd_T81 l1 x7_2).f2⟩ : S81) )) (Reps.none _ _)))
           intro v254 w75 ho76 hb hg_ hnew_
           clear hg_ hnew_
           (first | rw [← Ny253.out] at ho76 | (simp only [Int.reduceToNat] at ho76; rw [← Ny253.out] at ho76))
           have HO255 := Aside0.mk (Kd.R_lower (Kd.R_new' (Kd.R_new' ho76 (Kd.R_lt (rk_ HO_6.out))) (Kd.R_lt (rk_ HO251.out))) (below_size (bl_ HB.out)))
           replace HO_6 := Aside0.mk (Kd.R_elder' (rk_ HO_6.out) (Kd.R_base ho76) hb)
           replace HO251 := Aside0.mk (Kd.R_elder' (rk_ HO251.out) (Kd.R_base ho76) hb)
           replace HB := Aside0.mk (below_step (bl_ HB.out) hb)
           clear hb ho76
           refine hK.out _ _ ⟨(bc_ HB.out hw252_0 :), (bc_ HB.out hw252_1 :), (bc_ HB.out hw252_2 :)⟩ (fun hHeld => ?_)
           clear hK K
           refine norm_ (a' := ?_) ?_ ?_
           rotate_left
           ·show Act.put _ (some 98) _ = _
            simp only [pz_]
            rfl
           exact norm_ (by simp only [putAll, Act.put, List.setIfInBounds_toArray, List.set_cons_zero, List.set_cons_succ]) (hCont (v243, v250, v254) _ ⟨hHeld, (rk_ (Kd.R_mono HO251.out (fun _ hk => ⟨hk.2, hk.1⟩))), (rk_ (Kd.R_mono HO255.out (fun _ hk => ⟨hk.2, hk.1.2⟩))), (rk_ (Kd.R_mono HO_6.out (fun _ hk => ⟨hk.1.2, hk.2⟩))), (bl_ HB.out)⟩)
          ·skip
           refine Kd.R_lit_step k81 _ 81 ?hg (N := 98) ?hd (xs := ([(⟨(rd_T81 l1 x7_2).f0, (rd_T81 l1 x7_2).f1, (rd_T81 l1 x7_2).f2⟩ : S81)] : List (S81))) (inner := [.int .i64 ((rd_T81 l1 x7_2).f0), .int .i64 ((rd_T81 l1 x7_2).f1), .int .i64 ((rd_T81 l1 x7_2).f2)]) (ok := fun _ => True) (okp := fun _ => True) ?hr ?hp (fun _ hk => hk) trivial (Below.refl _ _) (Nat.le_refl _) (by simp) ?_; (case hd => rfl); (case hg => rfl); (case hr => first | (go_simp; done) | (go_simp; rfl)); (case hp => exact (Reps.c3 (show Kd.M k81 _ _ _ (⟨(rd_T81 l1 x7_2).f0, (rd_T81 l1 x7_2).f1, (rd_T81 l1 x7_2).f2⟩ : S81) [.int .i64 ((rd_T81 l1 x7_2).f0), .int .i64 ((rd_T81 l1 x7_2).f1), .int .i64 ((rd_T81 l1 x7_2).f2)] from (k81_mkM _ _ _ (⟨(rd_T81 l1 x7_2).f0, (rd_T81 l1 x7_2).f1, (rd_T81 l1 x7_2).f2⟩ : S81) )) (Reps.none _ _)))
           intro v254 w74 ho75 hb hg_ hnew_
           clear hg_ hnew_
           (first | rw [← Ny253.out] at ho75 | (simp only [Int.reduceToNat] at ho75; rw [← Ny253.out] at ho75))
           have HO255 := Aside0.mk (Kd.R_lower (Kd.R_new' (Kd.R_new' ho75 (Kd.R_lt (rk_ HO_6.out))) (Kd.R_lt (rk_ HO244.out))) (below_size (bl_ HB.out)))
           replace HO_6 := Aside0.mk (Kd.R_elder' (rk_ HO_6.out) (Kd.R_base ho75) hb)
           replace HO244 := Aside0.mk (Kd.R_elder' (rk_ HO244.out) (Kd.R_base ho75) hb)
           replace HB := Aside0.mk (below_step (bl_ HB.out) hb)
           clear hb ho75
           refine hK.out _ _ ⟨(bc_ HB.out hw252_0 :), (bc_ HB.out hw252_1 :), (bc_ HB.out hw252_2 :)⟩ (fun hHeld => ?_)
           clear hK K
           refine norm_ (a' := ?_) ?_ ?_
           rotate_left
           ·show Act.put _ (some 98) _ = _
            simp only [pz_]
            rfl
           refine one_ (i := 4) (N := some 93) #[t_,t_,t_,t_,t_,t_,t_,t_,t_,t_,f_,t_,t_,t_,f_,f_] rfl rfl (one_of HT_.out (by kernel_rfl)) (by decide) (fun K hK => ?_)
           refine Kd.R_append_rows_step k81 (w0 := w) w.heap.size (by rfl) (.tmp 89) (.tmp 92) 29 81 (.agg #[(.int .i64 0), (.int .i64 0), (.int .i64 0)]) 24 rfl Try.underlying29 info81 rfl (by decide) (by omega) v243 y242 y245 _ _ _ (fun k_ => some k_ ≠ (.slice (some ad208) x6_2.length co66 : Value).ownBlock ∧ some k_ ≠ (v254 : Value).ownBlock) (fun _ => False) rfl rfl ?aO ?aR (fun _ _ h => h) (fun _ h => h.elim) ?aF ?aB ?aS ?aL ?_
           (case aR => exact r20_ Ny245.out HO_6.out)
           (case aB => exact (bl_ HB.out))
           (case aF => exact (fun k_ hk => ⟨Kd.fresh' (Kd.R_lt (rk_ HO_6.out)) k_ hk, Kd.fresh' (Kd.R_lt (rk_ HO255.out)) k_ hk⟩))
           (case aO => exact (rk_ (Kd.R_mono HO244.out (fun _ hk => ⟨hk.1.2, hk.2⟩))))
           (case aS => exact (below_size (bl_ HB.out)))
           (case aL => have := LMc60.out; omega)
           intro v250 w76 ho hb hg hat
           rw [← Ny249.out] at ho
           have n0_ := Aside0.mk (Kd.R_after (ok := (fun k_ => some k_ ≠ (v254 : Value).ownBlock)) (rk_ (Kd.R_mono HO_6.out (fun _ hk => ⟨hk.2, hk.1.2⟩))) hg hat)
           have n1_ := Aside0.mk (Kd.R_after (ok := (fun k_ => some k_ ≠ (.slice (some ad208) x6_2.length co66 : Value).ownBlock)) (rk_ (Kd.R_mono HO255.out (fun _ hk => ⟨hk.1.2, hk.2⟩))) hg hat)
           have n2_ := Aside0.mk (hb)
           have n3_ := Aside0.mk (ho)
           clear HO_6
           clear HO255
           clear HB
           clear HO244
           have HO_6 := n0_
           have HO255 := n1_
           have HB := n2_
           have HO251 := n3_
           clear n0_ n1_ n2_ n3_
           clear ho hb hg hat
           refine hK.out _ _ ⟨(bc_ HB.out hw252_0 :), (bc_ HB.out hw252_1 :), (bc_ HB.out hw252_2 :)⟩ (fun hHeld => ?_)
           clear hK K
           refine norm_ (a' := ?_) ?_ ?_
           rotate_left
           ·show Act.put _ (some 93) _ = _
            simp only [pz_]
            rfl
           exact norm_ (by simp only [putAll, Act.put, List.setIfInBounds_toArray, List.set_cons_zero, List.set_cons_succ]) (hCont (v243, v250, v254) _ ⟨hHeld, (rk_ (Kd.R_mono HO251.out (fun _ hk => ⟨hk.2, hk.1⟩))), (rk_ (Kd.R_mono HO255.out (fun _ hk => ⟨hk.2, hk.1⟩))), (rk_ (Kd.R_mono HO_6.out (fun _ hk => ⟨hk.2, hk.1⟩))), (bl_ HB.out)⟩)
         ·skip
          refine Kd.R_lit_step k81 _ 81 ?hg (N := 98) ?hd (xs := ([(⟨(rd_T81 l1 x7_2).f0, (rd_T81 l1 x7_2).f1, (rd_T81 l1 x7_2).f2⟩ : S81)] : List (S81))) (inner := [.int .i64 ((rd_T81 l1 x7_2).f0), .int .i64 ((rd_T81 l1 x7_2).f1), .int .i64 ((rd_T81 l1 x7_2).f2)]) (ok := fun _ => True) (okp := fun _ => True) ?hr ?hp (fun _ hk => hk) trivial (Below.refl _ _) (Nat.le_refl _) (by simp) ?_; (case hd => rfl); (case hg => rfl); (case hr => first | (go_simp; done) | (go_simp; rfl)); (case hp => exact (Reps.c3 (show Kd.M k81 _ _ _ (⟨(rd_T81 l1 x7_2).f0, (rd_T81 l1 x7_2).f1, (rd_T81 l1 x7_2).f2⟩ : S81) [.int .i64 ((rd_T81 l1 x7_2).f0), .int .i64 ((rd_T81 l1 x7_2).f1), .int .i64 ((rd_T81 l1 x7_2).f2)] from (k81_mkM _ _ _ (⟨(rd_T81 l1 x7_2).f0, (rd_T81 l1 x7_2).f1, (rd_T81 l1 x7_2).f2⟩ : S81) )) (Reps.none _ _)))
          intro v254 w72 ho73 hb hg_ hnew_
          clear hg_ hnew_
          (first | rw [← Ny253.out] at ho73 | (simp only [Int.reduceToNat] at ho73; rw [← Ny253.out] at ho73))
          have HO255 := Aside0.mk (Kd.R_lower (Kd.R_new' ho73 (Kd.R_lt (rk_ HO_6.out))) (below_size (bl_ HB.out)))
          replace HO_6 := Aside0.mk (Kd.R_elder' (rk_ HO_6.out) (Kd.R_base ho73) hb)
          replace HB := Aside0.mk (below_step (bl_ HB.out) hb)
          clear hb ho73
          refine hK.out _ _ ⟨(bc_ HB.out hw252_0 :), (bc_ HB.out hw252_1 :), (bc_ HB.out hw252_2 :)⟩ (fun hHeld => ?_)
          clear hK K
          refine norm_ (a' := ?_) ?_ ?_
          rotate_left
          ·show Act.put _ (some 98) _ = _
           simp only [pz_]
           rfl
          refine one_ (i := 0) (N := some 89) #[t_,t_,t_,t_,f_,t_,t_,t_,t_,t_,f_,t_,t_,t_,f_,f_] rfl rfl (one_of HT_.out (by kernel_rfl)) (by decide) (fun K hK => ?_)
          refine Kd.R_lit_step k81 _ 81 ?hg (N := 89) ?hd (xs := ([] : List (S81))) (inner := []) (ok := fun _ => True) (okp := fun _ => True) ?hr ?hp (fun _ hk => hk) trivial (Below.refl _ _) (Nat.le_refl _) (by simp) ?_; (case hd => rfl); (case hg => rfl); (case hr => first | (go_simp; done) | (go_simp; rfl)); (case hp => exact (Reps.none _ _))
          intro v243 w74 ho75 hb hg_ hnew_
          clear hg_ hnew_
          (first | rw [← Ny242.out] at ho75 | (simp only [Int.reduceToNat] at ho75; rw [← Ny242.out] at ho75))
          have HO244 := Aside0.mk (Kd.R_lower (Kd.R_new' (Kd.R_new' ho75 (Kd.R_lt (rk_ HO_6.out))) (Kd.R_lt (rk_ HO255.out))) (below_size (bl_ HB.out)))
          replace HO_6 := Aside0.mk (Kd.R_elder' (rk_ HO_6.out) (Kd.R_base ho75) hb)
          replace HO255 := Aside0.mk (Kd.R_elder' (rk_ HO255.out) (Kd.R_base ho75) hb)
          replace HB := Aside0.mk (below_step (bl_ HB.out) hb)
          clear hb ho75
          refine hK.out _ _ ⟨(bc_ HB.out hw252_0 :), (bc_ HB.out hw252_1 :), (bc_ HB.out hw252_2 :)⟩ (fun hHeld => ?_)
          clear hK K
          refine norm_ (a' := ?_) ?_ ?_
          rotate_left
          ·show Act.put _ (some 89) _ = _
           simp only [pz_]
           rfl
          refine one_ (i := 4) (N := some 93) #[t_,t_,t_,t_,t_,t_,t_,t_,t_,t_,f_,t_,t_,t_,f_,f_] rfl rfl (one_of HT_.out (by kernel_rfl)) (by decide) (fun K hK => ?_)
          refine Kd.R_append_rows_step k81 (w0 := w) w.heap.size (by rfl) (.tmp 89) (.tmp 92) 29 81 (.agg #[(.int .i64 0), (.int .i64 0), (.int .i64 0)]) 24 rfl Try.underlying29 info81 rfl (by decide) (by omega) v243 y242 y245 _ _ _ (fun k_ => some k_ ≠ (.slice (some ad208) x6_2.length co66 : Value).ownBlock ∧ some k_ ≠ (v254 : Value).ownBlock) (fun _ => False) rfl rfl ?aO ?aR (fun _ _ h => h) (fun _ h => h.elim) ?aF ?aB ?aS ?aL ?_
          (case aR => exact r20_ Ny245.out HO_6.out)
          (case aB => exact (bl_ HB.out))
          (case aF => exact (fun k_ hk => ⟨Kd.fresh' (Kd.R_lt (rk_ HO_6.out)) k_ hk, Kd.fresh' (Kd.R_lt (rk_ HO255.out)) k_ hk⟩))
          (case aO => exact (rk_ (Kd.R_mono HO244.out (fun _ hk => ⟨hk.1.2, hk.2⟩))))
          (case aS => exact (below_size (bl_ HB.out)))
          (case aL => have := LMc60.out; omega)
          intro v250 w76 ho hb hg hat
          rw [← Ny249.out] at ho
          have n0_ := Aside0.mk (Kd.R_after (ok := (fun k_ => some k_ ≠ (v254 : Value).ownBlock)) (rk_ (Kd.R_mono HO_6.out (fun _ hk => ⟨hk.1.2, hk.2⟩))) hg hat)
          have n1_ := Aside0.mk (Kd.R_after (ok := (fun k_ => some k_ ≠ (.slice (some ad208) x6_2.length co66 : Value).ownBlock)) (rk_ (Kd.R_mono HO255.out (fun _ hk => ⟨hk.1.2, hk.2⟩))) hg hat)
          have n2_ := Aside0.mk (hb)
          have n3_ := Aside0.mk (ho)
          clear HO_6
          clear HO255
          clear HB
          clear HO244
          have HO_6 := n0_
          have HO255 := n1_
          have HB := n2_
          have HO251 := n3_
          clear n0_ n1_ n2_ n3_
          clear ho hb hg hat
          refine hK.out _ _ ⟨(bc_ HB.out hw252_0 :), (bc_ HB.out hw252_1 :), (bc_ HB.out hw252_2 :)⟩ (fun hHeld => ?_)
          clear hK K
          refine norm_ (a' := ?_) ?_ ?_
          rotate_left
          ·show Act.put _ (some 93) _ = _
           simp only [pz_]
           rfl
          exact norm_ (by simp only [putAll, Act.put, List.setIfInBounds_toArray, List.set_cons_zero, List.set_cons_succ]) (hCont (v243, v250, v254) _ ⟨hHeld, (rk_ (Kd.R_mono HO251.out (fun _ hk => ⟨hk.2, hk.1⟩))), (rk_ (Kd.R_mono HO255.out (fun _ hk => ⟨hk.2, hk.1⟩))), (rk_ (Kd.R_mono HO_6.out (fun _ hk => ⟨hk.2, hk.1⟩))), (bl_ HB.out)⟩)
        rintro ⟨v243, v250, v254⟩ w77 ⟨hS_, h0_, h1_, h2_, h3_⟩
        have n0_ : Aside0 (Kd.R k81 81 w77 w.heap.size (fun k_ => some k_ ≠ (v254 : Value).ownBlock ∧ some k_ ≠ (.slice (some ad208) x6_2.length co66 : Value).ownBlock) v250 y249) := ⟨h0_⟩
        have n1_ : Aside0 (Kd.R k81 81 w77 w.heap.size (fun k_ => some k_ ≠ (v250 : Value).ownBlock ∧ some k_ ≠ (.slice (some ad208) x6_2.length co66 : Value).ownBlock) v254 y253) := ⟨h1_⟩
        have n2_ : Aside0 (Kd.R k81 81 w77 w.heap.size (fun k_ => some k_ ≠ (v250 : Value).ownBlock ∧ some k_ ≠ (v254 : Value).ownBlock) (.slice (some ad208) x6_2.length co66) x6_2) := ⟨h2_⟩
        have n3_ : Aside0 (Below w.heap.size w w77) := ⟨h3_⟩
        clear HO_6
        clear HB
        clear h0_ h1_ h2_ h3_
        have HO251 := n0_
        have HO255 := n1_
        have HO_6 := n2_
        have HB := n3_
        clear n0_ n1_ n2_ n3_
        have hHeld : w77.cell? (ad209.add ((x7_2).toNat * 3)) = some (.int .i64 ((rd_T81 l1 x7_2).f0)) ∧ w77.cell? ⟨(ad209.add ((x7_2).toNat * 3)).block, (ad209.add ((x7_2).toNat * 3)).off + 1, none⟩ = some (.int .i64 ((rd_T81 l1 x7_2).f1)) ∧ w77.cell? ⟨(ad209.add ((x7_2).toNat * 3)).block, (ad209.add ((x7_2).toNat * 3)).off + 2, none⟩ = some (.int .i64 ((rd_T81 l1 x7_2).f2)) := hS_
        obtain ⟨Ao79, co79, eo79⟩ := Kd.R_slice HO255.out
        (first | subst eo79 | (injection eo79 with f1_ f2_ f3_; have f4_ := f1_.symm; have f5_ := f3_.symm; clear f1_ f2_ f3_; subst f4_; subst f5_))
        refine norm_ (a' := ?_) ?_ ?_
        rotate_left
        ·simp only [putAll, Act.put, List.setIfInBounds_toArray, List.set_cons_zero, List.set_cons_succ]
         rfl
        refine one_ (i := 10) (N := some 99) #[t_,t_,t_,t_,t_,t_,t_,t_,t_,t_,t_,t_,t_,t_,f_,f_] rfl rfl (one_of HT_.out (by kernel_rfl)) (by decide) (fun K hK => ?_)
        refine Kd.R_append_rows_step k81 (w0 := w) w.heap.size (by rfl) (.tmp 93) (.tmp 98) 29 81 (.agg #[(.int .i64 0), (.int .i64 0), (.int .i64 0)]) 24 rfl Try.underlying29 info81 rfl (by decide) (by omega) v250 y249 y253 _ _ _ (fun k_ => some k_ ≠ (.slice (some ad208) x6_2.length co66 : Value).ownBlock ∧ some k_ ≠ (.slice Ao79 y253.length co79 : Value).ownBlock) (fun _ => False) rfl rfl ?aO ?aR (fun _ _ h => h) (fun _ h => h.elim) ?aF ?aB ?aS ?aL ?_
        (case aR => exact r6_ HO255.out)
        (case aB => exact (bl_ HB.out))
        (case aF => exact (fun k_ hk => ⟨Kd.fresh' (Kd.R_lt (rk_ HO_6.out)) k_ hk, Kd.fresh' (Kd.R_lt (rk_ HO255.out)) k_ hk⟩))
        (case aO => exact (rk_ (Kd.R_mono HO251.out (fun _ hk => ⟨hk.2, hk.1⟩))))
        (case aS => exact (below_size (bl_ HB.out)))
        (case aL => have := LMc61.out; omega)
        intro v257 w78 ho hb hg hat
        rw [← Ny256.out] at ho
        have n0_ := Aside0.mk (Kd.R_after (ok := (fun k_ => some k_ ≠ (.slice Ao79 y253.length co79 : Value).ownBlock)) (rk_ (Kd.R_mono HO_6.out (fun _ hk => ⟨hk.2, hk.1⟩))) hg hat)
        have n1_ := Aside0.mk (Kd.R_after (ok := (fun k_ => some k_ ≠ (.slice (some ad208) x6_2.length co66 : Value).ownBlock)) (rk_ (Kd.R_mono HO255.out (fun _ hk => ⟨hk.2, hk.1⟩))) hg hat)
        have n2_ := Aside0.mk (hb)
        have n3_ := Aside0.mk (ho)
        clear HO_6
        clear HO255
        clear HB
        clear HO251
        have HO_6 := n0_
        have HO255 := n1_
        have HB := n2_
        have HO258 := n3_
        clear n0_ n1_ n2_ n3_
        clear ho hb hg hat
        refine hK.out _ _ ⟨(bc_ HB.out hw252_0 :), (bc_ HB.out hw252_1 :), (bc_ HB.out hw252_2 :)⟩ (fun hHeld => ?_)
        clear hK K
        refine norm_ (a' := ?_) ?_ ?_
        rotate_left
        ·show Act.put _ (some 99) _ = _
         simp only [pz_]
         rfl
        refine one_ (i := 14) (N := some 103) #[t_,t_,t_,t_,t_,t_,t_,t_,t_,t_,t_,t_,t_,t_,t_,f_] rfl rfl (one_of HT_.out (by kernel_rfl)) (by decide) (fun K hK => ?_)
        refine Kd.R_append_rows_step k81 (w0 := w) w.heap.size (by rfl) (.tmp 99) (.tmp 102) 29 81 (.agg #[(.int .i64 0), (.int .i64 0), (.int .i64 0)]) 24 rfl Try.underlying29 info81 rfl (by decide) (by omega) v257 y256 y259 _ _ _ (fun k_ => some k_ ≠ (.slice (some ad208) x6_2.length co66 : Value).ownBlock ∧ some k_ ≠ (.slice Ao79 y253.length co79 : Value).ownBlock) (fun _ => False) rfl rfl ?aO ?aR (fun _ _ h => h) (fun _ h => h.elim) ?aF ?aB ?aS ?aL ?_
        (case aR => repeat (first | exact (by rw [KA71.out, Ny259.out]; exact Kd.C_drop (m := (x8_3 : Int).toNat) (c := co66) (Kd.R_reads' HO_6.out).2.2 hm71_.out hq71_.out) | (with_reducible refine Kd.C_alloc ?_ _) | (with_reducible refine Kd.C_drewN ?_ _) | (with_reducible refine Kd.C_drew ?_)))
        (case aB => exact (bl_ HB.out))
        (case aF => exact (fun k_ hk => ⟨Kd.fresh' (Kd.R_lt (rk_ HO_6.out)) k_ hk, Kd.fresh' (Kd.R_lt (rk_ HO255.out)) k_ hk⟩))
        (case aO => exact (rk_ HO258.out))
        (case aS => exact (below_size (bl_ HB.out)))
        (case aL => have := LMc64.out; omega)
        intro v264 w80 ho hb hg hat
        rw [← Ny263.out] at ho
        have n0_ := Aside0.mk (Kd.R_after (ok := (fun k_ => some k_ ≠ (.slice Ao79 y253.length co79 : Value).ownBlock)) (rk_ HO_6.out) hg hat)
        have n1_ := Aside0.mk (Kd.R_after (ok := (fun k_ => some k_ ≠ (.slice (some ad208) x6_2.length co66 : Value).ownBlock)) (rk_ HO255.out) hg hat)
        have n2_ := Aside0.mk (hb)
        have n3_ := Aside0.mk (ho)
        clear HO_6
        clear HO255
        clear HB
        clear HO258
        have HO_6 := n0_
        have HO255 := n1_
        have HB := n2_
        have HO265 := n3_
        clear n0_ n1_ n2_ n3_
        clear ho hb hg hat
        refine hK.out _ _ ⟨(bc_ HB.out hw252_0 :), (bc_ HB.out hw252_1 :), (bc_ HB.out hw252_2 :)⟩ (fun hHeld => ?_)
        clear hK K
        refine norm_ (a' := ?_) ?_ ?_
        rotate_left
        ·show Act.put _ (some 103) _ = _
         simp only [pz_]
         rfl
        refine pu_ 15 6 #[t_,t_,t_,t_,t_,t_,t_,t_,t_,t_,t_,t_,t_,t_,t_,t_] HT_.out ?_
        refine done_ (done_of HT_.out (by kernel_rfl)) ?_
        try go_wp2
        go_roundg k3
        case measure => have := HJ2.out; have := HK2.out; have := HK3.out; omega
        case rel => exact ⟨(y263), (wrap64 (x7_2 + 1)), rs_, H', ⟨by have := HJ2.out; have := HK2.out; have := HK3.out; omega⟩, ⟨rk_ (Kd.R_mono HO265.out (fun _ hk => trivial))⟩, ⟨bl_ HB.out⟩⟩
       rw [if_pos c25] at H
       have c25b0 := beq_iff_eq.mpr c25
       have c25b1 := bne_eq_false_iff_eq.mpr c25
       clear c25
       by_cases c26 : ((rd_T81 x6_2 x8_3).f1) = ((rd_T81 l1 x7_2).f1)
       case pos =>
        rw [if_pos c26] at H
        have c26b0 := beq_iff_eq.mpr c26
        have c26b1 := bne_eq_false_iff_eq.mpr c26
        clear c26
        obtain ⟨ji27, hji27⟩ : ∃ j_ : Int, (mx ((rd_T81 x6_2 x8_3).f2) ((rd_T81 l1 x7_2).f2)) = j_ := ⟨_, rfl⟩
        replace H : (spec_MergeTables.l0 k3 l0 l1 (x6_2.set (x8_3 : Int).toNat (⟨(rd_T81 x6_2 x8_3).f0, (rd_T81 x6_2 x8_3).f1, ji27⟩ : S81)) (wrap64 (x7_2 + 1))) = some (r1, r2) := by first | (rw [hji27] at H; exact H) | (simp only [hji27] at H ⊢; exact H)
        (try rw [hji27] at A20)
        have hji27_ : (if ((rd_T81 x6_2 x8_3).f2) < ((rd_T81 l1 x7_2).f2) then ((rd_T81 l1 x7_2).f2) else ((rd_T81 x6_2 x8_3).f2)) = ji27 := hji27
        obtain ⟨y217, hy217⟩ : ∃ y_ : List (S81), y_ = (x6_2.set (x8_3 : Int).toNat (⟨(rd_T81 x6_2 x8_3).f0, (rd_T81 x6_2 x8_3).f1, ji27⟩ : S81)) := ⟨_, rfl⟩
        replace H : (spec_MergeTables.l0 k3 l0 l1 y217 (wrap64 (x7_2 + 1))) = some (r1, r2) := by first | (rw [hy217]; with_reducible exact H) | (have H2_ := (Option.bind_some _ _).symm.trans H; rw [hy217]; with_reducible exact H2_) | (have H2_ := (Option.bind_some _ _).symm.trans H; with_reducible exact H2_) | with_reducible exact H | (rw [hy217]; exact H) | exact H
        have Ny217 := Aside0.mk hy217
        clear hy217
        have H' := Aside0.mk H
        clear H
        try go_wp2
        replace HO_6 := Aside0.mk (Kd.R_drew HO_6.out)
        replace HB := Aside0.mk (below_drew1 HB.out)
        obtain ⟨Ao30, co30, eo30⟩ := Kd.R_slice HO_6.out
        (first | subst eo30 | (injection eo30 with f1_ f2_ f3_; have f4_ := f1_.symm; have f5_ := f3_.symm; clear f1_ f2_ f3_; subst f4_; subst f5_))
        have p208 : 0 ≤ (x8_3 : Int) := od_
        have q208 : x8_3 < (x6_2.length : Int) := od_
        obtain ⟨ad208, e208, hx208_0, hx208_1, hx208_2⟩ := at_T81 (Kd.R_reads' HO_6.out).2.2 x8_3 p208 q208
        cases e208
        replace p208 := eq_true p208
        replace q208 := eq_true q208
        have p209 : 0 ≤ (x7_2 : Int) := od_
        have q209 : x7_2 < (l1.length : Int) := od_
        obtain ⟨ad209, e209, hx209_0, hx209_1, hx209_2⟩ := at_T81 HR1.out x7_2 p209 q209
        have hw209_2 := hx209_2
        have hw209_1 := hx209_1
        have hw209_0 := hx209_0
        cases e209
        replace hx209_0 := bc_ HB.out hx209_0
        replace hx209_1 := bc_ HB.out hx209_1
        replace hx209_2 := bc_ HB.out hx209_2
        replace p209 := eq_true p209
        replace q209 := eq_true q209
        refine start_ (n := 15) (S := fun w' => w'.cell? (ad208.add ((x8_3).toNat * 3)) = some (.int .i64 ((rd_T81 x6_2 x8_3).f0)) ∧ w'.cell? ⟨(ad208.add ((x8_3).toNat * 3)).block, (ad208.add ((x8_3).toNat * 3)).off + 1, none⟩ = some (.int .i64 ((rd_T81 x6_2 x8_3).f1)) ∧ w'.cell? ⟨(ad208.add ((x8_3).toNat * 3)).block, (ad208.add ((x8_3).toNat * 3)).off + 2, none⟩ = some (.int .i64 ((rd_T81 x6_2 x8_3).f2)) ∧ w'.cell? (ad209.add ((x7_2).toNat * 3)) = some (.int .i64 ((rd_T81 l1 x7_2).f0)) ∧ w'.cell? ⟨(ad209.add ((x7_2).toNat * 3)).block, (ad209.add ((x7_2).toNat * 3)).off + 1, none⟩ = some (.int .i64 ((rd_T81 l1 x7_2).f1)) ∧ w'.cell? ⟨(ad209.add ((x7_2).toNat * 3)).block, (ad209.add ((x7_2).toNat * 3)).off + 2, none⟩ = some (.int .i64 ((rd_T81 l1 x7_2).f2))) (ds := []) #[f_,f_,f_,f_,f_,f_,f_,f_,f_,f_,f_,f_,f_,f_,f_] (by kernel_rfl) rfl rfl ⟨hx208_0, hx208_1, hx208_2, (bc_ HB.out hw209_0 :), (bc_ HB.out hw209_1 :), (bc_ HB.out hw209_2 :)⟩ (fun hHeld => ?_); refine with_tabW spec_MergeTables.tab8 spec_MergeTables.bits8 (fun HT_ HW_ => ?_)
        generalize wr.drew = w29 at HO_6 HB hx208_0 hx208_1 hx208_2 hx209_0 hx209_1 hx209_2 hHeld ⊢
        refine pv_ 0 27 HT_.out ?_
        refine pv_ 1 28 HT_.out ?_
        refine pv_ 2 29 HT_.out ?_
        refine pv_ 3 30 HT_.out ?_
        refine pv_ 4 31 HT_.out ?_
        refine pv_ 5 32 HT_.out ?_
        refine pv_ 6 33 HT_.out ?_
        refine pv_ 7 34 HT_.out ?_
        refine pv_ 9 36 HT_.out ?_
        refine pv_ 10 37 HT_.out ?_
        refine pv_ 11 38 HT_.out ?_
        refine tv6_ 8 35 HT_.out HW_.out hHeld ?_
        refine tk6_ 12 39 #[t_,t_,t_,t_,t_,t_,t_,t_,t_,t_,t_,t_,t_,f_,f_] HT_.out HW_.out hHeld ?_
        refine one_ (i := 13) (N := some 40) #[t_,t_,t_,t_,t_,t_,t_,t_,t_,t_,t_,t_,t_,t_,f_] rfl rfl (one_of HT_.out (by kernel_rfl)) (by decide) (fun K hK => ?_)
        refine goes_ Try.func150 (by kernel_rfl) rfl #[.agg #[.int .i64 ((rd_T81 x6_2 x8_3).f0), .int .i64 ((rd_T81 x6_2 x8_3).f1), .int .i64 ((rd_T81 x6_2 x8_3).f2)], .agg #[.int .i64 ((rd_T81 l1 x7_2).f0), .int .i64 ((rd_T81 l1 x7_2).f1), .int .i64 ((rd_T81 l1 x7_2).f2)]] (by rfl) rfl rfl ag_ ?_
        with_reducible refine (spec_l16Before.calls ((rd_T81 x6_2 x8_3).f0) ((rd_T81 x6_2 x8_3).f1) ((rd_T81 x6_2 x8_3).f2) ((rd_T81 l1 x7_2).f0) ((rd_T81 l1 x7_2).f1) ((rd_T81 l1 x7_2).f2) false _ A20.out).mono ?_
        rintro e w31 ⟨rfl, hb⟩
        have HS0_ := (hb.cell (World.block_lt_of_cell? _ _ (hHeld.1))).trans (hHeld.1)
        have HS1_ := (hb.cell (World.block_lt_of_cell? _ _ (hHeld.2.1))).trans (hHeld.2.1)
        have HS2_ := (hb.cell (World.block_lt_of_cell? _ _ (hHeld.2.2.1))).trans (hHeld.2.2.1)
        refine ⟨_, rfl, ?_⟩
        replace HO_6 := Aside0.mk (Kd.R_below (rk_ HO_6.out) hb)
        replace HB := Aside0.mk (below_step (bl_ HB.out) hb)
        (try clear hb)
        (try clear hb2)
        (try clear hk)
        (try clear hi)
        refine hK.out _ _ ⟨HS0_, HS1_, HS2_, (bc_ HB.out hw209_0 :), (bc_ HB.out hw209_1 :), (bc_ HB.out hw209_2 :)⟩ (fun hHeld => ?_)
        clear hK K
        refine norm_ (a' := ?_) ?_ ?_
        rotate_left
        ·show Act.put _ (some 40) _ = _
         simp only [pz_]
         rfl
        refine pu_ 14 41 #[t_,t_,t_,t_,t_,t_,t_,t_,t_,t_,t_,t_,t_,t_,t_] HT_.out ?_
        refine done_ (done_of HT_.out (by kernel_rfl)) ?_
        try go_wp2
        replace HO_6 := Aside0.mk (Kd.R_drew HO_6.out)
        replace HB := Aside0.mk (below_drew1 HB.out)
        have p211 : 0 ≤ (x8_3 : Int) := od_
        have q211 : x8_3 < (x6_2.length : Int) := od_
        obtain ⟨ad211, e211, hx211_0, hx211_1, hx211_2⟩ := at_T81 (Kd.R_reads' HO_6.out).2.2 x8_3 p211 q211
        obtain rfl : ad208 = ad211 := (by injection e211)
        replace p211 := eq_true p211
        replace q211 := eq_true q211
        have p212 : 0 ≤ (x7_2 : Int) := od_
        have q212 : x7_2 < (l1.length : Int) := od_
        obtain ⟨ad212, e212, hx212_0, hx212_1, hx212_2⟩ := at_T81 HR1.out x7_2 p212 q212
        have hw212_2 := hx212_2
        have hw212_1 := hx212_1
        have hw212_0 := hx212_0
        obtain rfl : ad209 = ad212 := (by injection e212)
        replace hx212_0 := bc_ HB.out hx212_0
        replace hx212_1 := bc_ HB.out hx212_1
        replace hx212_2 := bc_ HB.out hx212_2
        replace p212 := eq_true p212
        replace q212 := eq_true q212
        have p213 : 0 ≤ (x8_3 : Int) := od_
        have q213 : x8_3 < (x6_2.length : Int) := od_
        obtain ⟨ad213, e213, hx213_0, hx213_1, hx213_2⟩ := at_T81 (Kd.R_reads' HO_6.out).2.2 x8_3 p213 q213
        obtain rfl : ad208 = ad213 := (by injection e213)
        replace p213 := eq_true p213
        replace q213 := eq_true q213
        have p214 : 0 ≤ (x7_2 : Int) := od_
        have q214 : x7_2 < (l1.length : Int) := od_
        obtain ⟨ad214, e214, hx214_0, hx214_1, hx214_2⟩ := at_T81 HR1.out x7_2 p214 q214
        have hw214_2 := hx214_2
        have hw214_1 := hx214_1
        have hw214_0 := hx214_0
        obtain rfl : ad209 = ad214 := (by injection e214)
        replace hx214_0 := bc_ HB.out hx214_0
        replace hx214_1 := bc_ HB.out hx214_1
        replace hx214_2 := bc_ HB.out hx214_2
        replace p214 := eq_true p214
        replace q214 := eq_true q214
        refine start_ (n := 30) (S := fun w' => w'.cell? (ad208.add ((x8_3).toNat * 3)) = some (.int .i64 ((rd_T81 x6_2 x8_3).f0)) ∧ w'.cell? ⟨(ad208.add ((x8_3).toNat * 3)).block, (ad208.add ((x8_3).toNat * 3)).off + 1, none⟩ = some (.int .i64 ((rd_T81 x6_2 x8_3).f1)) ∧ w'.cell? ⟨(ad208.add ((x8_3).toNat * 3)).block, (ad208.add ((x8_3).toNat * 3)).off + 2, none⟩ = some (.int .i64 ((rd_T81 x6_2 x8_3).f2)) ∧ w'.cell? (ad209.add ((x7_2).toNat * 3)) = some (.int .i64 ((rd_T81 l1 x7_2).f0)) ∧ w'.cell? ⟨(ad209.add ((x7_2).toNat * 3)).block, (ad209.add ((x7_2).toNat * 3)).off + 1, none⟩ = some (.int .i64 ((rd_T81 l1 x7_2).f1)) ∧ w'.cell? ⟨(ad209.add ((x7_2).toNat * 3)).block, (ad209.add ((x7_2).toNat * 3)).off + 2, none⟩ = some (.int .i64 ((rd_T81 l1 x7_2).f2)) ∧ w'.cell? (ad208.add ((x8_3).toNat * 3)) = some (.int .i64 ((rd_T81 x6_2 x8_3).f0)) ∧ w'.cell? ⟨(ad208.add ((x8_3).toNat * 3)).block, (ad208.add ((x8_3).toNat * 3)).off + 1, none⟩ = some (.int .i64 ((rd_T81 x6_2 x8_3).f1)) ∧ w'.cell? ⟨(ad208.add ((x8_3).toNat * 3)).block, (ad208.add ((x8_3).toNat * 3)).off + 2, none⟩ = some (.int .i64 ((rd_T81 x6_2 x8_3).f2)) ∧ w'.cell? (ad209.add ((x7_2).toNat * 3)) = some (.int .i64 ((rd_T81 l1 x7_2).f0)) ∧ w'.cell? ⟨(ad209.add ((x7_2).toNat * 3)).block, (ad209.add ((x7_2).toNat * 3)).off + 1, none⟩ = some (.int .i64 ((rd_T81 l1 x7_2).f1)) ∧ w'.cell? ⟨(ad209.add ((x7_2).toNat * 3)).block, (ad209.add ((x7_2).toNat * 3)).off + 2, none⟩ = some (.int .i64 ((rd_T81 l1 x7_2).f2))) (ds := []) #[f_,f_,f_,f_,f_,f_,f_,f_,f_,f_,f_,f_,f_,f_,f_,f_,f_,f_,f_,f_,f_,f_,f_,f_,f_,f_,f_,f_,f_,f_] (by kernel_rfl) rfl rfl ⟨hx211_0, hx211_1, hx211_2, (bc_ HB.out hw212_0 :), (bc_ HB.out hw212_1 :), (bc_ HB.out hw212_2 :), hx213_0, hx213_1, hx213_2, (bc_ HB.out hw214_0 :), (bc_ HB.out hw214_1 :), (bc_ HB.out hw214_2 :)⟩ (fun hHeld => ?_); refine with_tabW spec_MergeTables.tab10 spec_MergeTables.bits10 (fun HT_ HW_ => ?_)
        generalize w31.drew = w32 at HO_6 HB hx211_0 hx211_1 hx211_2 hx212_0 hx212_1 hx212_2 hx213_0 hx213_1 hx213_2 hx214_0 hx214_1 hx214_2 hHeld ⊢
        refine pv_ 0 44 HT_.out ?_
        refine pv_ 1 45 HT_.out ?_
        refine pv_ 2 46 HT_.out ?_
        refine pv_ 3 47 HT_.out ?_
        refine pv_ 4 48 HT_.out ?_
        refine pv_ 5 49 HT_.out ?_
        refine pv_ 6 50 HT_.out ?_
        refine pv_ 7 51 HT_.out ?_
        refine pv_ 8 52 HT_.out ?_
        refine pv_ 10 54 HT_.out ?_
        refine pv_ 11 55 HT_.out ?_
        refine pv_ 12 56 HT_.out ?_
        refine pv_ 13 57 HT_.out ?_
        refine tv12_ 9 53 HT_.out HW_.out hHeld ?_
        refine tv12_ 14 58 HT_.out HW_.out hHeld ?_
        refine pv_ 15 59 HT_.out ?_
        refine pv_ 16 60 HT_.out ?_
        refine pv_ 17 61 HT_.out ?_
        refine pv_ 18 62 HT_.out ?_
        refine pv_ 19 63 HT_.out ?_
        refine pv_ 20 64 HT_.out ?_
        refine pv_ 21 65 HT_.out ?_
        refine pv_ 23 67 HT_.out ?_
        refine pv_ 24 68 HT_.out ?_
        refine pv_ 25 69 HT_.out ?_
        refine pv_ 26 70 HT_.out ?_
        refine tv12_ 22 66 HT_.out HW_.out hHeld ?_
        refine tv12_ 27 71 HT_.out HW_.out hHeld ?_
        refine pv_ 28 72 HT_.out ?_
        refine pu_ 29 73 #[t_,t_,t_,t_,t_,t_,t_,t_,t_,t_,t_,t_,t_,t_,t_,t_,t_,t_,t_,t_,t_,t_,t_,t_,t_,t_,t_,t_,t_,t_] HT_.out ?_
        refine done_ (done_of HT_.out (by kernel_rfl)) ?_
        try go_wp2
        replace HO_6 := Aside0.mk (Kd.R_drew HO_6.out)
        replace HB := Aside0.mk (below_drew1 HB.out)
        have p215 : 0 ≤ (x8_3 : Int) := od_
        have q215 : x8_3 < (x6_2.length : Int) := od_
        obtain ⟨ad215, e215, hx215_0, hx215_1, hx215_2⟩ := at_T81 (Kd.R_reads' HO_6.out).2.2 x8_3 p215 q215
        obtain rfl : ad208 = ad215 := (by injection e215)
        replace p215 := eq_true p215
        replace q215 := eq_true q215
        have p216 : 0 ≤ (x7_2 : Int) := od_
        have q216 : x7_2 < (l1.length : Int) := od_
        obtain ⟨ad216, e216, hx216_0, hx216_1, hx216_2⟩ := at_T81 HR1.out x7_2 p216 q216
        have hw216_2 := hx216_2
        have hw216_1 := hx216_1
        have hw216_0 := hx216_0
        obtain rfl : ad209 = ad216 := (by injection e216)
        replace hx216_0 := bc_ HB.out hx216_0
        replace hx216_1 := bc_ HB.out hx216_1
        replace hx216_2 := bc_ HB.out hx216_2
        replace p216 := eq_true p216
        replace q216 := eq_true q216
        have p28 : 0 ≤ (x8_3 : Int) := od_
        have q28 : (x8_3 : Int) < ((x6_2.length : Int) : Int) := od_
        obtain ⟨go28, co28, eo28, gb28, gl28, cl28, HG28⟩ := Kd.R_form HO_6.out (by omega)
        (first | cases eo28 | (injection eo28 with ea_ en_ ec_; (first | subst ea_ | (injection ea_ with ea_; subst ea_)); subst ec_; clear en_))
        have GB28 := Aside0.mk gb28
        have GG28 := Aside0.mk HG28
        clear gb28 gl28 HG28
        (first | simp only [add_plain] at hx208_0 | skip)
        (first | simp only [add_plain] at hx208_1 | skip)
        (first | simp only [add_plain] at hx208_2 | skip)
        (first | simp only [add_plain] at hx211_0 | skip)
        (first | simp only [add_plain] at hx211_1 | skip)
        (first | simp only [add_plain] at hx211_2 | skip)
        (first | simp only [add_plain] at hx213_0 | skip)
        (first | simp only [add_plain] at hx213_1 | skip)
        (first | simp only [add_plain] at hx213_2 | skip)
        (first | simp only [add_plain] at hx215_0 | skip)
        (first | simp only [add_plain] at hx215_1 | skip)
        (first | simp only [add_plain] at hx215_2 | skip)
        obtain ⟨ce28, hcl28, hM28, hcc28, hfr28⟩ := Kd.R_elem HO_6.out z81 (x8_3 : Int) p28 q28
        obtain rfl := k81_openM hM28
        have hx28_0 : World.cell? _ ⟨go28, (x8_3 : Int).toNat * 3, none⟩ = some (.int .i64 ((rd_T81 x6_2 x8_3).f0)) := hcc28 0 _ rfl
        have hx28_1 : World.cell? _ ⟨go28, (x8_3 : Int).toNat * 3 + 1, none⟩ = some (.int .i64 ((rd_T81 x6_2 x8_3).f1)) := hcc28 1 _ rfl
        have hx28_2 : World.cell? _ ⟨go28, (x8_3 : Int).toNat * 3 + 2, none⟩ = some (.int .i64 ((rd_T81 x6_2 x8_3).f2)) := hcc28 2 _ rfl
        have hf28_0 : World.frozen? _ ⟨go28, (x8_3 : Int).toNat * 3, none⟩ = false := hfr28 0
        have hf28_1 : World.frozen? _ ⟨go28, (x8_3 : Int).toNat * 3 + 1, none⟩ = false := hfr28 1
        have hf28_2 : World.frozen? _ ⟨go28, (x8_3 : Int).toNat * 3 + 2, none⟩ = false := hfr28 2
        clear hcl28 hcc28 hfr28 hM28
        replace p28 := eq_true p28
        replace q28 := eq_true q28
        obtain ⟨ce34, hcl34, hM34, hcc34, hfr34⟩ := Kd.R_elem HO_6.out z81 (x8_3 : Int) od_ (by have h_ : (x8_3 : Int) < ((x6_2.length : Int) : Int) := od_; first | exact h_ | (have e_ := (Kd.R_reads' HO_6.out).1; omega) | simpa using h_)
        obtain rfl := k81_openM hM34
        have HP34 := (Kd.R_seg HO_6.out (x8_3 : Int) od_ (by have h_ : (x8_3 : Int) < ((x6_2.length : Int) : Int) := od_; first | exact h_ | (have e_ := (Kd.R_reads' HO_6.out).1; omega) | simpa using h_) (seg := [.int .i64 ji27]) (j := 2) hcl34 hcc34 (show 3 ≤ 3 from by decide) (x' := (⟨(rd_T81 x6_2 x8_3).f0, (rd_T81 x6_2 x8_3).f1, ji27⟩ : S81)) (k81_mkM _ _ _ (⟨(rd_T81 x6_2 x8_3).f0, (rd_T81 x6_2 x8_3).f1, ji27⟩ : S81) ) (fun _ hk => hk)).1
        rw [← Ny217.out] at HP34
        have HQ34 := Aside0.mk HP34
        clear hcl34 hcc34 hfr34 hM34 HP34
        refine start_ (n := 16) (S := fun w' => w'.cell? ⟨go28, ((x8_3).toNat * 3), none⟩ = some (.int .i64 ((rd_T81 x6_2 x8_3).f0)) ∧ w'.cell? ⟨go28, ((x8_3).toNat * 3) + 1, none⟩ = some (.int .i64 ((rd_T81 x6_2 x8_3).f1)) ∧ w'.cell? ⟨go28, ((x8_3).toNat * 3) + 2, none⟩ = some (.int .i64 ((rd_T81 x6_2 x8_3).f2)) ∧ w'.cell? (ad209.add ((x7_2).toNat * 3)) = some (.int .i64 ((rd_T81 l1 x7_2).f0)) ∧ w'.cell? ⟨(ad209.add ((x7_2).toNat * 3)).block, (ad209.add ((x7_2).toNat * 3)).off + 1, none⟩ = some (.int .i64 ((rd_T81 l1 x7_2).f1)) ∧ w'.cell? ⟨(ad209.add ((x7_2).toNat * 3)).block, (ad209.add ((x7_2).toNat * 3)).off + 2, none⟩ = some (.int .i64 ((rd_T81 l1 x7_2).f2))) (ds := [15]) #[f_,f_,f_,f_,f_,f_,f_,f_,f_,f_,f_,f_,f_,f_,f_,f_] (by kernel_rfl) rfl rfl ⟨hx215_0, hx215_1, hx215_2, (bc_ HB.out hw216_0 :), (bc_ HB.out hw216_1 :), (bc_ HB.out hw216_2 :)⟩ (fun hHeld => ?_); refine with_tabW spec_MergeTables.tab11 spec_MergeTables.bits11 (fun HT_ HW_ => ?_)
        generalize w32.drew = w33 at HO_6 HB GG28 HQ34 hf28_0 hf28_1 hf28_2 hx208_0 hx208_1 hx208_2 hx211_0 hx211_1 hx211_2 hx213_0 hx213_1 hx213_2 hx215_0 hx215_1 hx215_2 hx216_0 hx216_1 hx216_2 hx28_0 hx28_1 hx28_2 hHeld ⊢
        refine pv_ 0 74 HT_.out ?_
        refine pv_ 1 75 HT_.out ?_
        refine pv_ 2 76 HT_.out ?_
        refine pv_ 3 77 HT_.out ?_
        refine pv_ 4 78 HT_.out ?_
        refine pv_ 5 79 HT_.out ?_
        refine pv_ 7 81 HT_.out ?_
        refine pv_ 8 82 HT_.out ?_
        refine pv_ 9 83 HT_.out ?_
        refine pv_ 10 84 HT_.out ?_
        refine tv6_ 6 80 HT_.out HW_.out hHeld ?_
        refine tv6_ 11 85 HT_.out HW_.out hHeld ?_
        refine pv_ 12 86 HT_.out ?_
        refine pv_ 13 87 HT_.out ?_
        refine pu_ 14 88 #[t_,t_,t_,t_,t_,t_,t_,t_,t_,t_,t_,t_,t_,t_,t_,f_] HT_.out ?_
        refine last_ (i := 15) (N := none) #[t_,t_,t_,t_,t_,t_,t_,t_,t_,t_,t_,t_,t_,t_,t_,t_] rfl rfl (one_of HT_.out (by kernel_rfl)) (by decide) (fun K hK => ?_)
        refine skip_ (w1 := ?_) (by rfl) rfl ?_ ?_
        rotate_left
        ·go_simp
         rfl
        refine hK.out _ _ ?_
        clear hK K
        refine done_ (done_of HT_.out (by kernel_rfl)) ?_
        try go_wp2
        go_roundg k3
        case measure => have := HJ2.out; have := HK2.out; have := HK3.out; omega
        case rel => exact ⟨(y217), (wrap64 (x7_2 + 1)), rs_, H', ⟨by have := HJ2.out; have := HK2.out; have := HK3.out; omega⟩, ⟨rk_ HQ34.out⟩, ⟨r3_ HB.out GB28.out⟩⟩
       rw [if_neg c26] at H
       have c26b0 := beq_eq_false_iff_ne.mpr c26
       have c26b1 := bne_iff_ne.mpr c26
       obtain ⟨y218, hy218⟩ : ∃ y_ : List (S81), y_ = (([] : List (S81))) := ⟨_, rfl⟩
       replace H : (if x8_3 ≤ (x6_2.length : Int) then ((some (x6_2.take (x8_3 : Int).toNat : List (S81))).bind fun y221 => (if y218.length + y221.length < 5864062014805 then ((some (y218 ++ y221 : List (S81))).bind fun y225 => ((some (([(⟨(rd_T81 l1 x7_2).f0, (rd_T81 l1 x7_2).f1, (rd_T81 l1 x7_2).f2⟩ : S81)] : List (S81)) : List (S81))).bind fun y229 => (if y225.length + y229.length < 5864062014805 then ((some (y225 ++ y229 : List (S81))).bind fun y232 => ((some (x6_2.drop (x8_3 : Int).toNat : List (S81))).bind fun y235 => (if y232.length + y235.length < 5864062014805 then (spec_MergeTables.l0 k3 l0 l1 (y232 ++ y235) (wrap64 (x7_2 + 1))) else (none)))) else (none)))) else (none))) else (none)) = some (r1, r2) := by first | (rw [hy218]; with_reducible exact H) | (have H2_ := (Option.bind_some _ _).symm.trans H; rw [hy218]; with_reducible exact H2_) | (have H2_ := (Option.bind_some _ _).symm.trans H; with_reducible exact H2_) | with_reducible exact H | (rw [hy218]; exact H) | exact H
       have Ny218 := Aside0.mk hy218
       clear hy218
       have c35b0 := eq_true (od_ : 0 ≤ x8_3)
       by_cases c36 : x8_3 ≤ (x6_2.length : Int)
       case neg =>
        rw [if_neg c36] at H
        exact absurd H (by simp)
       rw [if_pos c36] at H
       have c36b0 := eq_true c36
       have c36b1 := decide_eq_true c36
       clear c36
       obtain ⟨y221, hy221⟩ : ∃ y_ : List (S81), y_ = (x6_2.take (x8_3 : Int).toNat) := ⟨_, rfl⟩
       replace H : (if y218.length + y221.length < 5864062014805 then ((some (y218 ++ y221 : List (S81))).bind fun y225 => ((some (([(⟨(rd_T81 l1 x7_2).f0, (rd_T81 l1 x7_2).f1, (rd_T81 l1 x7_2).f2⟩ : S81)] : List (S81)) : List (S81))).bind fun y229 => (if y225.length + y229.length < 5864062014805 then ((some (y225 ++ y229 : List (S81))).bind fun y232 => ((some (x6_2.drop (x8_3 : Int).toNat : List (S81))).bind fun y235 => (if y232.length + y235.length < 5864062014805 then (spec_MergeTables.l0 k3 l0 l1 (y232 ++ y235) (wrap64 (x7_2 + 1))) else (none)))) else (none)))) else (none)) = some (r1, r2) := by first | (rw [hy221]; with_reducible exact H) | (have H2_ := (Option.bind_some _ _).symm.trans H; rw [hy221]; with_reducible exact H2_) | (have H2_ := (Option.bind_some _ _).symm.trans H; with_reducible exact H2_) | with_reducible exact H | (rw [hy221]; exact H) | exact H
       have Ny221 := Aside0.mk hy221
       clear hy221
       by_cases c37 : y218.length + y221.length < 5864062014805
       case neg =>
        rw [if_neg c37] at H
        exact absurd H (by simp)
       rw [if_pos c37] at H
       have LMc37 := Aside0.mk c37
       clear c37
       obtain ⟨y225, hy225⟩ : ∃ y_ : List (S81), y_ = (y218 ++ y221) := ⟨_, rfl⟩
       replace H : ((some (([(⟨(rd_T81 l1 x7_2).f0, (rd_T81 l1 x7_2).f1, (rd_T81 l1 x7_2).f2⟩ : S81)] : List (S81)) : List (S81))).bind fun y229 => (if y225.length + y229.length < 5864062014805 then ((some (y225 ++ y229 : List (S81))).bind fun y232 => ((some (x6_2.drop (x8_3 : Int).toNat : List (S81))).bind fun y235 => (if y232.length + y235.length < 5864062014805 then (spec_MergeTables.l0 k3 l0 l1 (y232 ++ y235) (wrap64 (x7_2 + 1))) else (none)))) else (none))) = some (r1, r2) := by first | (rw [hy225]; with_reducible exact H) | (have H2_ := (Option.bind_some _ _).symm.trans H; rw [hy225]; with_reducible exact H2_) | (have H2_ := (Option.bind_some _ _).symm.trans H; with_reducible exact H2_) | with_reducible exact H | (rw [hy225]; exact H) | exact H
       have Ny225 := Aside0.mk hy225
       clear hy225
       obtain ⟨y229, hy229⟩ : ∃ y_ : List (S81), y_ = (([(⟨(rd_T81 l1 x7_2).f0, (rd_T81 l1 x7_2).f1, (rd_T81 l1 x7_2).f2⟩ : S81)] : List (S81))) := ⟨_, rfl⟩
       replace H : (if y225.length + y229.length < 5864062014805 then ((some (y225 ++ y229 : List (S81))).bind fun y232 => ((some (x6_2.drop (x8_3 : Int).toNat : List (S81))).bind fun y235 => (if y232.length + y235.length < 5864062014805 then (spec_MergeTables.l0 k3 l0 l1 (y232 ++ y235) (wrap64 (x7_2 + 1))) else (none)))) else (none)) = some (r1, r2) := by first | (rw [hy229]; with_reducible exact H) | (have H2_ := (Option.bind_some _ _).symm.trans H; rw [hy229]; with_reducible exact H2_) | (have H2_ := (Option.bind_some _ _).symm.trans H; with_reducible exact H2_) | with_reducible exact H | (rw [hy229]; exact H) | exact H
       have Ny229 := Aside0.mk hy229
       clear hy229
       by_cases c38 : y225.length + y229.length < 5864062014805
       case neg =>
        rw [if_neg c38] at H
        exact absurd H (by simp)
       rw [if_pos c38] at H
       have LMc38 := Aside0.mk c38
       clear c38
       obtain ⟨y232, hy232⟩ : ∃ y_ : List (S81), y_ = (y225 ++ y229) := ⟨_, rfl⟩
       replace H : ((some (x6_2.drop (x8_3 : Int).toNat : List (S81))).bind fun y235 => (if y232.length + y235.length < 5864062014805 then (spec_MergeTables.l0 k3 l0 l1 (y232 ++ y235) (wrap64 (x7_2 + 1))) else (none))) = some (r1, r2) := by first | (rw [hy232]; with_reducible exact H) | (have H2_ := (Option.bind_some _ _).symm.trans H; rw [hy232]; with_reducible exact H2_) | (have H2_ := (Option.bind_some _ _).symm.trans H; with_reducible exact H2_) | with_reducible exact H | (rw [hy232]; exact H) | exact H
       have Ny232 := Aside0.mk hy232
       clear hy232
       have c39b0 := eq_true (od_ : 0 ≤ x8_3)
       have c40b0 := eq_true (od_ : x8_3 ≤ (x6_2.length : Int))
       obtain ⟨y235, hy235⟩ : ∃ y_ : List (S81), y_ = (x6_2.drop (x8_3 : Int).toNat) := ⟨_, rfl⟩
       replace H : (if y232.length + y235.length < 5864062014805 then (spec_MergeTables.l0 k3 l0 l1 (y232 ++ y235) (wrap64 (x7_2 + 1))) else (none)) = some (r1, r2) := by first | (rw [hy235]; with_reducible exact H) | (have H2_ := (Option.bind_some _ _).symm.trans H; rw [hy235]; with_reducible exact H2_) | (have H2_ := (Option.bind_some _ _).symm.trans H; with_reducible exact H2_) | with_reducible exact H | (rw [hy235]; exact H) | exact H
       have Ny235 := Aside0.mk hy235
       clear hy235
       by_cases c41 : y232.length + y235.length < 5864062014805
       case neg =>
        rw [if_neg c41] at H
        exact absurd H (by simp)
       rw [if_pos c41] at H
       have LMc41 := Aside0.mk c41
       clear c41
       obtain ⟨y239, hy239⟩ : ∃ y_ : List (S81), y_ = (y232 ++ y235) := ⟨_, rfl⟩
       replace H : (spec_MergeTables.l0 k3 l0 l1 y239 (wrap64 (x7_2 + 1))) = some (r1, r2) := by first | (rw [hy239]; with_reducible exact H) | (have H2_ := (Option.bind_some _ _).symm.trans H; rw [hy239]; with_reducible exact H2_) | (have H2_ := (Option.bind_some _ _).symm.trans H; with_reducible exact H2_) | with_reducible exact H | (rw [hy239]; exact H) | exact H
       have Ny239 := Aside0.mk hy239
       clear hy239
       have H' := Aside0.mk H
       clear H
       try go_wp2
       replace HO_6 := Aside0.mk (Kd.R_drew HO_6.out)
       replace HB := Aside0.mk (below_drew1 HB.out)
       obtain ⟨Ao43, co43, eo43⟩ := Kd.R_slice HO_6.out
       (first | subst eo43 | (injection eo43 with f1_ f2_ f3_; have f4_ := f1_.symm; have f5_ := f3_.symm; clear f1_ f2_ f3_; subst f4_; subst f5_))
       have p208 : 0 ≤ (x8_3 : Int) := od_
       have q208 : x8_3 < (x6_2.length : Int) := od_
       obtain ⟨ad208, e208, hx208_0, hx208_1, hx208_2⟩ := at_T81 (Kd.R_reads' HO_6.out).2.2 x8_3 p208 q208
       cases e208
       replace p208 := eq_true p208
       replace q208 := eq_true q208
       have p209 : 0 ≤ (x7_2 : Int) := od_
       have q209 : x7_2 < (l1.length : Int) := od_
       obtain ⟨ad209, e209, hx209_0, hx209_1, hx209_2⟩ := at_T81 HR1.out x7_2 p209 q209
       have hw209_2 := hx209_2
       have hw209_1 := hx209_1
       have hw209_0 := hx209_0
       cases e209
       replace hx209_0 := bc_ HB.out hx209_0
       replace hx209_1 := bc_ HB.out hx209_1
       replace hx209_2 := bc_ HB.out hx209_2
       replace p209 := eq_true p209
       replace q209 := eq_true q209
       refine start_ (n := 15) (S := fun w' => w'.cell? (ad208.add ((x8_3).toNat * 3)) = some (.int .i64 ((rd_T81 x6_2 x8_3).f0)) ∧ w'.cell? ⟨(ad208.add ((x8_3).toNat * 3)).block, (ad208.add ((x8_3).toNat * 3)).off + 1, none⟩ = some (.int .i64 ((rd_T81 x6_2 x8_3).f1)) ∧ w'.cell? ⟨(ad208.add ((x8_3).toNat * 3)).block, (ad208.add ((x8_3).toNat * 3)).off + 2, none⟩ = some (.int .i64 ((rd_T81 x6_2 x8_3).f2)) ∧ w'.cell? (ad209.add ((x7_2).toNat * 3)) = some (.int .i64 ((rd_T81 l1 x7_2).f0)) ∧ w'.cell? ⟨(ad209.add ((x7_2).toNat * 3)).block, (ad209.add ((x7_2).toNat * 3)).off + 1, none⟩ = some (.int .i64 ((rd_T81 l1 x7_2).f1)) ∧ w'.cell? ⟨(ad209.add ((x7_2).toNat * 3)).block, (ad209.add ((x7_2).toNat * 3)).off + 2, none⟩ = some (.int .i64 ((rd_T81 l1 x7_2).f2))) (ds := []) #[f_,f_,f_,f_,f_,f_,f_,f_,f_,f_,f_,f_,f_,f_,f_] (by kernel_rfl) rfl rfl ⟨hx208_0, hx208_1, hx208_2, (bc_ HB.out hw209_0 :), (bc_ HB.out hw209_1 :), (bc_ HB.out hw209_2 :)⟩ (fun hHeld => ?_); refine with_tabW spec_MergeTables.tab8 spec_MergeTables.bits8 (fun HT_ HW_ => ?_)
       generalize wr.drew = w42 at HO_6 HB hx208_0 hx208_1 hx208_2 hx209_0 hx209_1 hx209_2 hHeld ⊢
       refine pv_ 0 27 HT_.out ?_
       refine pv_ 1 28 HT_.out ?_
       refine pv_ 2 29 HT_.out ?_
       refine pv_ 3 30 HT_.out ?_
       refine pv_ 4 31 HT_.out ?_
       refine pv_ 5 32 HT_.out ?_
       refine pv_ 6 33 HT_.out ?_
       refine pv_ 7 34 HT_.out ?_
       refine pv_ 9 36 HT_.out ?_
       refine pv_ 10 37 HT_.out ?_
       refine pv_ 11 38 HT_.out ?_
       refine tv6_ 8 35 HT_.out HW_.out hHeld ?_
       refine tk6_ 12 39 #[t_,t_,t_,t_,t_,t_,t_,t_,t_,t_,t_,t_,t_,f_,f_] HT_.out HW_.out hHeld ?_
       refine one_ (i := 13) (N := some 40) #[t_,t_,t_,t_,t_,t_,t_,t_,t_,t_,t_,t_,t_,t_,f_] rfl rfl (one_of HT_.out (by kernel_rfl)) (by decide) (fun K hK => ?_)
       refine goes_ Try.func150 (by kernel_rfl) rfl #[.agg #[.int .i64 ((rd_T81 x6_2 x8_3).f0), .int .i64 ((rd_T81 x6_2 x8_3).f1), .int .i64 ((rd_T81 x6_2 x8_3).f2)], .agg #[.int .i64 ((rd_T81 l1 x7_2).f0), .int .i64 ((rd_T81 l1 x7_2).f1), .int .i64 ((rd_T81 l1 x7_2).f2)]] (by rfl) rfl rfl ag_ ?_
       with_reducible refine (spec_l16Before.calls ((rd_T81 x6_2 x8_3).f0) ((rd_T81 x6_2 x8_3).f1) ((rd_T81 x6_2 x8_3).f2) ((rd_T81 l1 x7_2).f0) ((rd_T81 l1 x7_2).f1) ((rd_T81 l1 x7_2).f2) false _ A20.out).mono ?_
       rintro e w44 ⟨rfl, hb⟩
       have HS0_ := (hb.cell (World.block_lt_of_cell? _ _ (hHeld.1))).trans (hHeld.1)
       have HS1_ := (hb.cell (World.block_lt_of_cell? _ _ (hHeld.2.1))).trans (hHeld.2.1)
       have HS2_ := (hb.cell (World.block_lt_of_cell? _ _ (hHeld.2.2.1))).trans (hHeld.2.2.1)
       refine ⟨_, rfl, ?_⟩
       replace HO_6 := Aside0.mk (Kd.R_below (rk_ HO_6.out) hb)
       replace HB := Aside0.mk (below_step (bl_ HB.out) hb)
       (try clear hb)
       (try clear hb2)
       (try clear hk)
       (try clear hi)
       refine hK.out _ _ ⟨HS0_, HS1_, HS2_, (bc_ HB.out hw209_0 :), (bc_ HB.out hw209_1 :), (bc_ HB.out hw209_2 :)⟩ (fun hHeld => ?_)
       clear hK K
       refine norm_ (a' := ?_) ?_ ?_
       rotate_left
       ·show Act.put _ (some 40) _ = _
        simp only [pz_]
        rfl
       refine pu_ 14 41 #[t_,t_,t_,t_,t_,t_,t_,t_,t_,t_,t_,t_,t_,t_,t_] HT_.out ?_
       refine done_ (done_of HT_.out (by kernel_rfl)) ?_
       try go_wp2
       replace HO_6 := Aside0.mk (Kd.R_drew HO_6.out)
       replace HB := Aside0.mk (below_drew1 HB.out)
       have p211 : 0 ≤ (x8_3 : Int) := od_
       have q211 : x8_3 < (x6_2.length : Int) := od_
       obtain ⟨ad211, e211, hx211_0, hx211_1, hx211_2⟩ := at_T81 (Kd.R_reads' HO_6.out).2.2 x8_3 p211 q211
       obtain rfl : ad208 = ad211 := (by injection e211)
       replace p211 := eq_true p211
       replace q211 := eq_true q211
       have p212 : 0 ≤ (x7_2 : Int) := od_
       have q212 : x7_2 < (l1.length : Int) := od_
       obtain ⟨ad212, e212, hx212_0, hx212_1, hx212_2⟩ := at_T81 HR1.out x7_2 p212 q212
       have hw212_2 := hx212_2
       have hw212_1 := hx212_1
       have hw212_0 := hx212_0
       obtain rfl : ad209 = ad212 := (by injection e212)
       replace hx212_0 := bc_ HB.out hx212_0
       replace hx212_1 := bc_ HB.out hx212_1
       replace hx212_2 := bc_ HB.out hx212_2
       replace p212 := eq_true p212
       replace q212 := eq_true q212
       have p213 : 0 ≤ (x8_3 : Int) := od_
       have q213 : x8_3 < (x6_2.length : Int) := od_
       obtain ⟨ad213, e213, hx213_0, hx213_1, hx213_2⟩ := at_T81 (Kd.R_reads' HO_6.out).2.2 x8_3 p213 q213
       obtain rfl : ad208 = ad213 := (by injection e213)
       replace p213 := eq_true p213
       replace q213 := eq_true q213
       have p214 : 0 ≤ (x7_2 : Int) := od_
       have q214 : x7_2 < (l1.length : Int) := od_
       obtain ⟨ad214, e214, hx214_0, hx214_1, hx214_2⟩ := at_T81 HR1.out x7_2 p214 q214
       have hw214_2 := hx214_2
       have hw214_1 := hx214_1
       have hw214_0 := hx214_0
       obtain rfl : ad209 = ad214 := (by injection e214)
       replace hx214_0 := bc_ HB.out hx214_0
       replace hx214_1 := bc_ HB.out hx214_1
       replace hx214_2 := bc_ HB.out hx214_2
       replace p214 := eq_true p214
       replace q214 := eq_true q214
       refine start_ (n := 30) (S := fun w' => w'.cell? (ad208.add ((x8_3).toNat * 3)) = some (.int .i64 ((rd_T81 x6_2 x8_3).f0)) ∧ w'.cell? ⟨(ad208.add ((x8_3).toNat * 3)).block, (ad208.add ((x8_3).toNat * 3)).off + 1, none⟩ = some (.int .i64 ((rd_T81 x6_2 x8_3).f1)) ∧ w'.cell? ⟨(ad208.add ((x8_3).toNat * 3)).block, (ad208.add ((x8_3).toNat * 3)).off + 2, none⟩ = some (.int .i64 ((rd_T81 x6_2 x8_3).f2)) ∧ w'.cell? (ad209.add ((x7_2).toNat * 3)) = some (.int .i64 ((rd_T81 l1 x7_2).f0)) ∧ w'.cell? ⟨(ad209.add ((x7_2).toNat * 3)).block, (ad209.add ((x7_2).toNat * 3)).off + 1, none⟩ = some (.int .i64 ((rd_T81 l1 x7_2).f1)) ∧ w'.cell? ⟨(ad209.add ((x7_2).toNat * 3)).block, (ad209.add ((x7_2).toNat * 3)).off + 2, none⟩ = some (.int .i64 ((rd_T81 l1 x7_2).f2)) ∧ w'.cell? (ad208.add ((x8_3).toNat * 3)) = some (.int .i64 ((rd_T81 x6_2 x8_3).f0)) ∧ w'.cell? ⟨(ad208.add ((x8_3).toNat * 3)).block, (ad208.add ((x8_3).toNat * 3)).off + 1, none⟩ = some (.int .i64 ((rd_T81 x6_2 x8_3).f1)) ∧ w'.cell? ⟨(ad208.add ((x8_3).toNat * 3)).block, (ad208.add ((x8_3).toNat * 3)).off + 2, none⟩ = some (.int .i64 ((rd_T81 x6_2 x8_3).f2)) ∧ w'.cell? (ad209.add ((x7_2).toNat * 3)) = some (.int .i64 ((rd_T81 l1 x7_2).f0)) ∧ w'.cell? ⟨(ad209.add ((x7_2).toNat * 3)).block, (ad209.add ((x7_2).toNat * 3)).off + 1, none⟩ = some (.int .i64 ((rd_T81 l1 x7_2).f1)) ∧ w'.cell? ⟨(ad209.add ((x7_2).toNat * 3)).block, (ad209.add ((x7_2).toNat * 3)).off + 2, none⟩ = some (.int .i64 ((rd_T81 l1 x7_2).f2))) (ds := []) #[f_,f_,f_,f_,f_,f_,f_,f_,f_,f_,f_,f_,f_,f_,f_,f_,f_,f_,f_,f_,f_,f_,f_,f_,f_,f_,f_,f_,f_,f_] (by kernel_rfl) rfl rfl ⟨hx211_0, hx211_1, hx211_2, (bc_ HB.out hw212_0 :), (bc_ HB.out hw212_1 :), (bc_ HB.out hw212_2 :), hx213_0, hx213_1, hx213_2, (bc_ HB.out hw214_0 :), (bc_ HB.out hw214_1 :), (bc_ HB.out hw214_2 :)⟩ (fun hHeld => ?_); refine with_tabW spec_MergeTables.tab10 spec_MergeTables.bits10 (fun HT_ HW_ => ?_)
       generalize w44.drew = w45 at HO_6 HB hx211_0 hx211_1 hx211_2 hx212_0 hx212_1 hx212_2 hx213_0 hx213_1 hx213_2 hx214_0 hx214_1 hx214_2 hHeld ⊢
       refine pv_ 0 44 HT_.out ?_
       refine pv_ 1 45 HT_.out ?_
       refine pv_ 2 46 HT_.out ?_
       refine pv_ 3 47 HT_.out ?_
       refine pv_ 4 48 HT_.out ?_
       refine pv_ 5 49 HT_.out ?_
       refine pv_ 6 50 HT_.out ?_
       refine pv_ 7 51 HT_.out ?_
       refine pv_ 8 52 HT_.out ?_
       refine pv_ 10 54 HT_.out ?_
       refine pv_ 11 55 HT_.out ?_
       refine pv_ 12 56 HT_.out ?_
       refine pv_ 13 57 HT_.out ?_
       refine tv12_ 9 53 HT_.out HW_.out hHeld ?_
       refine tv12_ 14 58 HT_.out HW_.out hHeld ?_
       refine pv_ 15 59 HT_.out ?_
       refine pv_ 16 60 HT_.out ?_
       refine pv_ 17 61 HT_.out ?_
       refine pv_ 18 62 HT_.out ?_
       refine pv_ 19 63 HT_.out ?_
       refine pv_ 20 64 HT_.out ?_
       refine pv_ 21 65 HT_.out ?_
       refine pv_ 23 67 HT_.out ?_
       refine pv_ 24 68 HT_.out ?_
       refine pv_ 25 69 HT_.out ?_
       refine pv_ 26 70 HT_.out ?_
       refine tv12_ 22 66 HT_.out HW_.out hHeld ?_
       refine tv12_ 27 71 HT_.out HW_.out hHeld ?_
       refine pv_ 28 72 HT_.out ?_
       refine pu_ 29 73 #[t_,t_,t_,t_,t_,t_,t_,t_,t_,t_,t_,t_,t_,t_,t_,t_,t_,t_,t_,t_,t_,t_,t_,t_,t_,t_,t_,t_,t_,t_] HT_.out ?_
       refine done_ (done_of HT_.out (by kernel_rfl)) ?_
       try go_wp2
       replace HO_6 := Aside0.mk (Kd.R_drew HO_6.out)
       replace HB := Aside0.mk (below_drew1 HB.out)
       have q47 : (x8_3 : Int) ≤ ((x6_2.length : Int) : Int) := od_
       obtain ⟨i047, hi047, _, hsz47, _⟩ := info_parts info81
       have hroom47 : x6_2.length ≤ co43 := (by have h_ := Kd.R_reads' HO_6.out; omega)
       have hC47 : Kd.C k81 _ (some ad208) x6_2.length x6_2 := (Kd.R_reads' HO_6.out).2.2
       have hm47_ := Aside0.mk (show (x8_3 : Int).toNat ≤ x6_2.length from by omega)
       have hq47_ := Aside0.mk hroom47
       have hcut47 := cut_to (P := Try.prog) 29 81 .i64 Try.underlying29 hi047 (some ad208) x6_2.length co43 x8_3 od_ q47 hroom47
       have hr47 := Kd.C_take (m := (x8_3 : Int).toNat) hC47 (by omega)
       have hy47 : y221.length = (x8_3 : Int).toNat := (by rw [Ny221.out, List.length_take]; omega)
       rw [← Ny221.out] at hr47
       rw [← hy47] at hcut47
       have HR224 := Aside0.mk hr47
       have HC224 := Aside0.mk (show y221.length ≤ co43 from by omega)
       clear hr47 hC47 hroom47 hi047 hsz47
       have KY47 := Aside0.mk hy47
       clear hy47
       replace q47 := eq_true q47
       have p228 : 0 ≤ (x7_2 : Int) := od_
       have q228 : x7_2 < (l1.length : Int) := od_
       obtain ⟨ad228, e228, hx228_0, hx228_1, hx228_2⟩ := at_T81 HR1.out x7_2 p228 q228
       have hw228_2 := hx228_2
       have hw228_1 := hx228_1
       have hw228_0 := hx228_0
       obtain rfl : ad209 = ad228 := (by injection e228)
       replace hx228_0 := bc_ HB.out hx228_0
       replace hx228_1 := bc_ HB.out hx228_1
       replace hx228_2 := bc_ HB.out hx228_2
       replace p228 := eq_true p228
       replace q228 := eq_true q228
       have q48 : (x8_3 : Int) ≤ ((x6_2.length : Int) : Int) := od_
       obtain ⟨i048, hi048, _, hsz48, _⟩ := info_parts info81
       have hroom48 : x6_2.length ≤ co43 := (by have h_ := Kd.R_reads' HO_6.out; omega)
       have hC48 : Kd.C k81 _ (some ad208) x6_2.length x6_2 := (Kd.R_reads' HO_6.out).2.2
       have q048 : (0 : Int) ≤ (x8_3 : Int) := od_
       have hm48_ := Aside0.mk (show (x8_3 : Int).toNat ≤ x6_2.length from by omega)
       have hq48_ := Aside0.mk hroom48
       have hcut48 := cut_from (P := Try.prog) 29 81 .i64 Try.underlying29 hi048 3 hsz48 (some ad208) x6_2.length co43 x8_3 q048 q48
       have hr48 := Kd.C_drop (m := (x8_3 : Int).toNat) (c := co43) hC48 (by omega) hroom48
       obtain ⟨A48, hA48⟩ : ∃ A1, A1 = (if co43 = (x8_3 : Int).toNat then (some ad208) else ((some ad208) : Option Addr).map (·.add ((x8_3 : Int).toNat * 3))) := ⟨_, rfl⟩
       obtain ⟨c48, hc48⟩ : ∃ c1, c1 = co43 - (x8_3 : Int).toNat := ⟨_, rfl⟩
       have hy48 : y235.length = x6_2.length - (x8_3 : Int).toNat := (by rw [Ny235.out, List.length_drop] <;> omega)
       rw [show (x6_2).drop (x8_3 : Int).toNat = y235 from Ny235.out.symm] at hr48
       replace hr48 : Kd.C k81 _ A48 y235.length y235 := (by rw [hA48]; exact hr48)
       rw [← hy48, ← hA48, ← hc48] at hcut48
       have HR238 := Aside0.mk hr48
       have HC238 := Aside0.mk (show y235.length ≤ c48 from by rw [hy48, hc48]; exact Nat.sub_le_sub_right hroom48 _)
       clear hr48 hC48 hroom48 hi048 hsz48 hc48
       have KY48 := Aside0.mk hy48
       have KA48 := Aside0.mk hA48
       clear hy48 hA48
       replace q48 := eq_true q48
       refine start_ (n := 16) (S := fun w' => w'.cell? (ad209.add ((x7_2).toNat * 3)) = some (.int .i64 ((rd_T81 l1 x7_2).f0)) ∧ w'.cell? ⟨(ad209.add ((x7_2).toNat * 3)).block, (ad209.add ((x7_2).toNat * 3)).off + 1, none⟩ = some (.int .i64 ((rd_T81 l1 x7_2).f1)) ∧ w'.cell? ⟨(ad209.add ((x7_2).toNat * 3)).block, (ad209.add ((x7_2).toNat * 3)).off + 2, none⟩ = some (.int .i64 ((rd_T81 l1 x7_2).f2))) (ds := []) #[f_,f_,f_,f_,f_,f_,f_,f_,f_,f_,f_,f_,f_,f_,f_,f_] (by kernel_rfl) rfl rfl ⟨(bc_ HB.out hw228_0 :), (bc_ HB.out hw228_1 :), (bc_ HB.out hw228_2 :)⟩ (fun hHeld => ?_); refine with_tabW spec_MergeTables.tab12 spec_MergeTables.bits12 (fun HT_ HW_ => ?_)
       generalize w45.drew = w46 at HO_6 HB HR224 HR238 hx228_0 hx228_1 hx228_2 hHeld ⊢
       refine pv_ 1 90 HT_.out ?_
       refine pv_ 2 91 HT_.out ?_
       refine pv_ 3 92 HT_.out ?_
       refine pv_ 5 94 HT_.out ?_
       refine pv_ 6 95 HT_.out ?_
       refine pv_ 7 96 HT_.out ?_
       refine pv_ 11 100 HT_.out ?_
       refine pv_ 12 101 HT_.out ?_
       refine pv_ 13 102 HT_.out ?_
       refine tk3_ 8 97 #[f_,t_,t_,t_,f_,t_,t_,t_,t_,f_,f_,t_,t_,t_,f_,f_] HT_.out HW_.out hHeld ?_
       refine join_ (σ := Value × Value × Value) 3 #[t_,t_,t_,t_,t_,t_,t_,t_,t_,t_,f_,t_,t_,t_,f_,f_] (fun s_ => [(89, s_.1), (93, s_.2.1), (98, s_.2.2)]) (fun s_ w' => (w'.cell? (ad209.add ((x7_2).toNat * 3)) = some (.int .i64 ((rd_T81 l1 x7_2).f0)) ∧ w'.cell? ⟨(ad209.add ((x7_2).toNat * 3)).block, (ad209.add ((x7_2).toNat * 3)).off + 1, none⟩ = some (.int .i64 ((rd_T81 l1 x7_2).f1)) ∧ w'.cell? ⟨(ad209.add ((x7_2).toNat * 3)).block, (ad209.add ((x7_2).toNat * 3)).off + 2, none⟩ = some (.int .i64 ((rd_T81 l1 x7_2).f2))) ∧ (Kd.R k81 81 w' w.heap.size (fun k_ => some k_ ≠ (s_.2.2 : Value).ownBlock ∧ some k_ ≠ (.slice (some ad208) x6_2.length co43 : Value).ownBlock) s_.2.1 y225) ∧ (Kd.R k81 81 w' w.heap.size (fun k_ => some k_ ≠ (s_.2.1 : Value).ownBlock ∧ some k_ ≠ (.slice (some ad208) x6_2.length co43 : Value).ownBlock) s_.2.2 y229) ∧ (Kd.R k81 81 w' w.heap.size (fun k_ => some k_ ≠ (s_.2.1 : Value).ownBlock ∧ some k_ ≠ (s_.2.2 : Value).ownBlock) (.slice (some ad208) x6_2.length co43) x6_2) ∧ (Below w.heap.size w w')) ?_ ?_
       rotate_left
       ·intro hCont
        refine two_ (i := 0) (j := 9) (Ni := some 89) (Nj := some 98) #[t_,t_,t_,t_,f_,t_,t_,t_,t_,f_,f_,t_,t_,t_,f_,f_] #[f_,t_,t_,t_,f_,t_,t_,t_,t_,t_,f_,t_,t_,t_,f_,f_] rfl rfl rfl rfl (two_of HT_.out (by kernel_rfl)) (by decide) (by decide) (fun K hK => ?_) (fun K hK => ?_)
        ·skip
         refine Kd.R_lit_step k81 _ 81 ?hg (N := 89) ?hd (xs := ([] : List (S81))) (inner := []) (ok := fun _ => True) (okp := fun _ => True) ?hr ?hp (fun _ hk => hk) trivial (Below.refl _ _) (Nat.le_refl _) (by simp) ?_; (case hd => rfl); (case hg => rfl); (case hr => first | (go_simp; done) | (go_simp; rfl)); (case hp => exact (Reps.none _ _))
         intro v219 w49 ho50 hb hg_ hnew_
         clear hg_ hnew_
         (first | rw [← Ny218.out] at ho50 | (simp only [Int.reduceToNat] at ho50; rw [← Ny218.out] at ho50))
         have HO220 := Aside0.mk (Kd.R_lower (Kd.R_new' ho50 (Kd.R_lt (rk_ HO_6.out))) (below_size (bl_ HB.out)))
         replace HO_6 := Aside0.mk (Kd.R_elder' (rk_ HO_6.out) (Kd.R_base ho50) hb)
         replace HB := Aside0.mk (below_step (bl_ HB.out) hb)
         clear hb ho50
         refine hK.out _ _ ⟨(bc_ HB.out hw228_0 :), (bc_ HB.out hw228_1 :), (bc_ HB.out hw228_2 :)⟩ (fun hHeld => ?_)
         clear hK K
         refine norm_ (a' := ?_) ?_ ?_
         rotate_left
         ·show Act.put _ (some 89) _ = _
          simp only [pz_]
          rfl
         refine two_ (i := 4) (j := 9) (Ni := some 93) (Nj := some 98) #[t_,t_,t_,t_,t_,t_,t_,t_,t_,f_,f_,t_,t_,t_,f_,f_] #[t_,t_,t_,t_,f_,t_,t_,t_,t_,t_,f_,t_,t_,t_,f_,f_] rfl rfl rfl rfl (two_of HT_.out (by kernel_rfl)) (by decide) (by decide) (fun K hK => ?_) (fun K hK => ?_)
         ·skip
          refine Kd.R_append_rows_step k81 (w0 := w) w.heap.size (by rfl) (.tmp 89) (.tmp 92) 29 81 (.agg #[(.int .i64 0), (.int .i64 0), (.int .i64 0)]) 24 rfl Try.underlying29 info81 rfl (by decide) (by omega) v219 y218 y221 _ _ _ (fun k_ => some k_ ≠ (.slice (some ad208) x6_2.length co43 : Value).ownBlock) (fun _ => False) rfl rfl ?aO ?aR (fun _ _ h => h) (fun _ h => h.elim) ?aF ?aB ?aS ?aL ?_
          (case aR => exact r21_ Ny221.out HO_6.out)
          (case aB => exact (bl_ HB.out))
          (case aF => exact (fun k_ hk => Kd.fresh' (Kd.R_lt (rk_ HO_6.out)) k_ hk))
          (case aO => exact (rk_ (Kd.R_mono HO220.out (fun _ hk => hk.2))))
          (case aS => exact (below_size (bl_ HB.out)))
          (case aL => have := LMc37.out; omega)
          intro v226 w51 ho hb hg hat
          rw [← Ny225.out] at ho
          have n0_ := Aside0.mk (Kd.R_after (ok := (fun _ => True)) (rk_ HO_6.out) hg hat)
          have n1_ := Aside0.mk (hb)
          have n2_ := Aside0.mk (ho)
          clear HO_6
          clear HB
          clear HO220
          have HO_6 := n0_
          have HB := n1_
          have HO227 := n2_
          clear n0_ n1_ n2_
          clear ho hb hg hat
          refine hK.out _ _ ⟨(bc_ HB.out hw228_0 :), (bc_ HB.out hw228_1 :), (bc_ HB.out hw228_2 :)⟩ (fun hHeld => ?_)
          clear hK K
          refine norm_ (a' := ?_) ?_ ?_
          rotate_left
          ·show Act.put _ (some 93) _ = _
           simp only [pz_]
           rfl
          refine one_ (i := 9) (N := some 98) #[t_,t_,t_,t_,t_,t_,t_,t_,t_,t_,f_,t_,t_,t_,f_,f_] rfl rfl (one_of HT_.out (by kernel_rfl)) (by decide) (fun K hK => ?_)
          refine Kd.R_lit_step k81 _ 81 ?hg (N := 98) ?hd (xs := ([(⟨(rd_T81 l1 x7_2).f0, (rd_T81 l1 x7_2).f1, (rd_T81 l1 x7_2).f2⟩ : S81)] : List (S81))) (inner := [.int .i64 ((rd_T81 l1 x7_2).f0), .int .i64 ((rd_T81 l1 x7_2).f1), .int .i64 ((rd_T81 l1 x7_2).f2)]) (ok := fun _ => True) (okp := fun _ => True) ?hr ?hp (fun _ hk => hk) trivial (Below.refl _ _) (Nat.le_refl _) (by simp) ?_; (case hd => rfl); (case hg => rfl); (case hr => first | (go_simp; done) | (go_simp; rfl)); (case hp => exact (Reps.c3 (show Kd.M k81 _ _ _ (⟨(rd_T81 l1 x7_2).f0, (rd_T81 l1 x7_2).f1, (rd_T81 l1 x7_2).f2⟩ : S81) [.int .i64 ((rd_T81 l1 x7_2).f0), .int .i64 ((rd_T81 l1 x7_2).f1), .int .i64 ((rd_T81 l1 x7_2).f2)] from (k81_mkM _ _ _ (⟨(rd_T81 l1 x7_2).f0, (rd_T81 l1 x7_2).f1, (rd_T81 l1 x7_2).f2⟩ : S81) )) (Reps.none _ _)))
          intro v230 w52 ho53 hb hg_ hnew_
          clear hg_ hnew_
          (first | rw [← Ny229.out] at ho53 | (simp only [Int.reduceToNat] at ho53; rw [← Ny229.out] at ho53))
          have HO231 := Aside0.mk (Kd.R_lower (Kd.R_new' (Kd.R_new' ho53 (Kd.R_lt (rk_ HO_6.out))) (Kd.R_lt (rk_ HO227.out))) (below_size (bl_ HB.out)))
          replace HO_6 := Aside0.mk (Kd.R_elder' (rk_ HO_6.out) (Kd.R_base ho53) hb)
          replace HO227 := Aside0.mk (Kd.R_elder' (rk_ HO227.out) (Kd.R_base ho53) hb)
          replace HB := Aside0.mk (below_step (bl_ HB.out) hb)
          clear hb ho53
          refine hK.out _ _ ⟨(bc_ HB.out hw228_0 :), (bc_ HB.out hw228_1 :), (bc_ HB.out hw228_2 :)⟩ (fun hHeld => ?_)
          clear hK K
          refine norm_ (a' := ?_) ?_ ?_
          rotate_left
          ·show Act.put _ (some 98) _ = _
           simp only [pz_]
           rfl
          exact norm_ (by simp only [putAll, Act.put, List.setIfInBounds_toArray, List.set_cons_zero, List.set_cons_succ]) (hCont (v219, v226, v230) _ ⟨hHeld, (rk_ (Kd.R_mono HO227.out (fun _ hk => ⟨hk.2, hk.1⟩))), (rk_ (Kd.R_mono HO231.out (fun _ hk => ⟨hk.2, hk.1.2⟩))), (rk_ (Kd.R_mono HO_6.out (fun _ hk => ⟨hk.1.2, hk.2⟩))), (bl_ HB.out)⟩)
         ·skip
          refine Kd.R_lit_step k81 _ 81 ?hg (N := 98) ?hd (xs := ([(⟨(rd_T81 l1 x7_2).f0, (rd_T81 l1 x7_2).f1, (rd_T81 l1 x7_2).f2⟩ : S81)] : List (S81))) (inner := [.int .i64 ((rd_T81 l1 x7_2).f0), .int .i64 ((rd_T81 l1 x7_2).f1), .int .i64 ((rd_T81 l1 x7_2).f2)]) (ok := fun _ => True) (okp := fun _ => True) ?hr ?hp (fun _ hk => hk) trivial (Below.refl _ _) (Nat.le_refl _) (by simp) ?_; (case hd => rfl); (case hg => rfl); (case hr => first | (go_simp; done) | (go_simp; rfl)); (case hp => exact (Reps.c3 (show Kd.M k81 _ _ _ (⟨(rd_T81 l1 x7_2).f0, (rd_T81 l1 x7_2).f1, (rd_T81 l1 x7_2).f2⟩ : S81) [.int .i64 ((rd_T81 l1 x7_2).f0), .int .i64 ((rd_T81 l1 x7_2).f1), .int .i64 ((rd_T81 l1 x7_2).f2)] from (k81_mkM _ _ _ (⟨(rd_T81 l1 x7_2).f0, (rd_T81 l1 x7_2).f1, (rd_T81 l1 x7_2).f2⟩ : S81) )) (Reps.none _ _)))
          intro v230 w51 ho52 hb hg_ hnew_
          clear hg_ hnew_
          (first | rw [← Ny229.out] at ho52 | (simp only [Int.reduceToNat] at ho52; rw [← Ny229.out] at ho52))
          have HO231 := Aside0.mk (Kd.R_lower (Kd.R_new' (Kd.R_new' ho52 (Kd.R_lt (rk_ HO_6.out))) (Kd.R_lt (rk_ HO220.out))) (below_size (bl_ HB.out)))
          replace HO_6 := Aside0.mk (Kd.R_elder' (rk_ HO_6.out) (Kd.R_base ho52) hb)
          replace HO220 := Aside0.mk (Kd.R_elder' (rk_ HO220.out) (Kd.R_base ho52) hb)
          replace HB := Aside0.mk (below_step (bl_ HB.out) hb)
          clear hb ho52
          refine hK.out _ _ ⟨(bc_ HB.out hw228_0 :), (bc_ HB.out hw228_1 :), (bc_ HB.out hw228_2 :)⟩ (fun hHeld => ?_)
          clear hK K
          refine norm_ (a' := ?_) ?_ ?_
          rotate_left
          ·show Act.put _ (some 98) _ = _
           simp only [pz_]
           rfl
          refine one_ (i := 4) (N := some 93) #[t_,t_,t_,t_,t_,t_,t_,t_,t_,t_,f_,t_,t_,t_,f_,f_] rfl rfl (one_of HT_.out (by kernel_rfl)) (by decide) (fun K hK => ?_)
          refine Kd.R_append_rows_step k81 (w0 := w) w.heap.size (by rfl) (.tmp 89) (.tmp 92) 29 81 (.agg #[(.int .i64 0), (.int .i64 0), (.int .i64 0)]) 24 rfl Try.underlying29 info81 rfl (by decide) (by omega) v219 y218 y221 _ _ _ (fun k_ => some k_ ≠ (.slice (some ad208) x6_2.length co43 : Value).ownBlock ∧ some k_ ≠ (v230 : Value).ownBlock) (fun _ => False) rfl rfl ?aO ?aR (fun _ _ h => h) (fun _ h => h.elim) ?aF ?aB ?aS ?aL ?_
          (case aR => exact r21_ Ny221.out HO_6.out)
          (case aB => exact (bl_ HB.out))
          (case aF => exact (fun k_ hk => ⟨Kd.fresh' (Kd.R_lt (rk_ HO_6.out)) k_ hk, Kd.fresh' (Kd.R_lt (rk_ HO231.out)) k_ hk⟩))
          (case aO => exact (rk_ (Kd.R_mono HO220.out (fun _ hk => ⟨hk.1.2, hk.2⟩))))
          (case aS => exact (below_size (bl_ HB.out)))
          (case aL => have := LMc37.out; omega)
          intro v226 w53 ho hb hg hat
          rw [← Ny225.out] at ho
          have n0_ := Aside0.mk (Kd.R_after (ok := (fun k_ => some k_ ≠ (v230 : Value).ownBlock)) (rk_ (Kd.R_mono HO_6.out (fun _ hk => ⟨hk.2, hk.1.2⟩))) hg hat)
          have n1_ := Aside0.mk (Kd.R_after (ok := (fun k_ => some k_ ≠ (.slice (some ad208) x6_2.length co43 : Value).ownBlock)) (rk_ (Kd.R_mono HO231.out (fun _ hk => ⟨hk.1.2, hk.2⟩))) hg hat)
          have n2_ := Aside0.mk (hb)
          have n3_ := Aside0.mk (ho)
          clear HO_6
          clear HO231
          clear HB
          clear HO220
          have HO_6 := n0_
          have HO231 := n1_
          have HB := n2_
          have HO227 := n3_
          clear n0_ n1_ n2_ n3_
          clear ho hb hg hat
          refine hK.out _ _ ⟨(bc_ HB.out hw228_0 :), (bc_ HB.out hw228_1 :), (bc_ HB.out hw228_2 :)⟩ (fun hHeld => ?_)
          clear hK K
          refine norm_ (a' := ?_) ?_ ?_
          rotate_left
          ·show Act.put _ (some 93) _ = _
           simp only [pz_]
           rfl
          exact norm_ (by simp only [putAll, Act.put, List.setIfInBounds_toArray, List.set_cons_zero, List.set_cons_succ]) (hCont (v219, v226, v230) _ ⟨hHeld, (rk_ (Kd.R_mono HO227.out (fun _ hk => ⟨hk.2, hk.1⟩))), (rk_ (Kd.R_mono HO231.out (fun _ hk => ⟨hk.2, hk.1⟩))), (rk_ (Kd.R_mono HO_6.out (fun _ hk => ⟨hk.2, hk.1⟩))), (bl_ HB.out)⟩)
        ·skip
         refine Kd.R_lit_step k81 _ 81 ?hg (N := 98) ?hd (xs := ([(⟨(rd_T81 l1 x7_2).f0, (rd_T81 l1 x7_2).f1, (rd_T81 l1 x7_2).f2⟩ : S81)] : List (S81))) (inner := [.int .i64 ((rd_T81 l1 x7_2).f0), .int .i64 ((rd_T81 l1 x7_2).f1), .int .i64 ((rd_T81 l1 x7_2).f2)]) (ok := fun _ => True) (okp := fun _ => True) ?hr ?hp (fun _ hk => hk) trivial (Below.refl _ _) (Nat.le_refl _) (by simp) ?_; (case hd => rfl); (case hg => rfl); (case hr => first | (go_simp; done) | (go_simp; rfl)); (case hp => exact (Reps.c3 (show Kd.M k81 _ _ _ (⟨(rd_T81 l1 x7_2).f0, (rd_T81 l1 x7_2).f1, (rd_T81 l1 x7_2).f2⟩ : S81) [.int .i64 ((rd_T81 l1 x7_2).f0), .int .i64 ((rd_T81 l1 x7_2).f1), .int .i64 ((rd_T81 l1 x7_2).f2)] from (k81_mkM _ _ _ (⟨(rd_T81 l1 x7_2).f0, (rd_T81 l1 x7_2).f1, (rd_T81 l1 x7_2).f2⟩ : S81) )) (Reps.none _ _)))
         intro v230 w49 ho50 hb hg_ hnew_
         clear hg_ hnew_
         (first | rw [← Ny229.out] at ho50 | (simp only [Int.reduceToNat] at ho50; rw [← Ny229.out] at ho50))
         have HO231 := Aside0.mk (Kd.R_lower (Kd.R_new' ho50 (Kd.R_lt (rk_ HO_6.out))) (below_size (bl_ HB.out)))
         replace HO_6 := Aside0.mk (Kd.R_elder' (rk_ HO_6.out) (Kd.R_base ho50) hb)
         replace HB := Aside0.mk (below_step (bl_ HB.out) hb)
         clear hb ho50
         refine hK.out _ _ ⟨(bc_ HB.out hw228_0 :), (bc_ HB.out hw228_1 :), (bc_ HB.out hw228_2 :)⟩ (fun hHeld => ?_)
         clear hK K
         refine norm_ (a' := ?_) ?_ ?_
         rotate_left
         ·show Act.put _ (some 98) _ = _
          simp only [pz_]
          rfl
         refine one_ (i := 0) (N := some 89) #[t_,t_,t_,t_,f_,t_,t_,t_,t_,t_,f_,t_,t_,t_,f_,f_] rfl rfl (one_of HT_.out (by kernel_rfl)) (by decide) (fun K hK => ?_)
         refine Kd.R_lit_step k81 _ 81 ?hg (N := 89) ?hd (xs := ([] : List (S81))) (inner := []) (ok := fun _ => True) (okp := fun _ => True) ?hr ?hp (fun _ hk => hk) trivial (Below.refl _ _) (Nat.le_refl _) (by simp) ?_; (case hd => rfl); (case hg => rfl); (case hr => first | (go_simp; done) | (go_simp; rfl)); (case hp => exact (Reps.none _ _))
         intro v219 w51 ho52 hb hg_ hnew_
         clear hg_ hnew_
         (first | rw [← Ny218.out] at ho52 | (simp only [Int.reduceToNat] at ho52; rw [← Ny218.out] at ho52))
         have HO220 := Aside0.mk (Kd.R_lower (Kd.R_new' (Kd.R_new' ho52 (Kd.R_lt (rk_ HO_6.out))) (Kd.R_lt (rk_ HO231.out))) (below_size (bl_ HB.out)))
         replace HO_6 := Aside0.mk (Kd.R_elder' (rk_ HO_6.out) (Kd.R_base ho52) hb)
         replace HO231 := Aside0.mk (Kd.R_elder' (rk_ HO231.out) (Kd.R_base ho52) hb)
         replace HB := Aside0.mk (below_step (bl_ HB.out) hb)
         clear hb ho52
         refine hK.out _ _ ⟨(bc_ HB.out hw228_0 :), (bc_ HB.out hw228_1 :), (bc_ HB.out hw228_2 :)⟩ (fun hHeld => ?_)
         clear hK K
         refine norm_ (a' := ?_) ?_ ?_
         rotate_left
         ·show Act.put _ (some 89) _ = _
          simp only [pz_]
          rfl
         refine one_ (i := 4) (N := some 93) #[t_,t_,t_,t_,t_,t_,t_,t_,t_,t_,f_,t_,t_,t_,f_,f_] rfl rfl (one_of HT_.out (by kernel_rfl)) (by decide) (fun K hK => ?_)
         refine Kd.R_append_rows_step k81 (w0 := w) w.heap.size (by rfl) (.tmp 89) (.tmp 92) 29 81 (.agg #[(.int .i64 0), (.int .i64 0), (.int .i64 0)]) 24 rfl Try.underlying29 info81 rfl (by decide) (by omega) v219 y218 y221 _ _ _ (fun k_ => some k_ ≠ (.slice (some ad208) x6_2.length co43 : Value).ownBlock ∧ some k_ ≠ (v230 : Value).ownBlock) (fun _ => False) rfl rfl ?aO ?aR (fun _ _ h => h) (fun _ h => h.elim) ?aF ?aB ?aS ?aL ?_
         (case aR => exact r21_ Ny221.out HO_6.out)
         (case aB => exact (bl_ HB.out))
         (case aF => exact (fun k_ hk => ⟨Kd.fresh' (Kd.R_lt (rk_ HO_6.out)) k_ hk, Kd.fresh' (Kd.R_lt (rk_ HO231.out)) k_ hk⟩))
         (case aO => exact (rk_ (Kd.R_mono HO220.out (fun _ hk => ⟨hk.1.2, hk.2⟩))))
         (case aS => exact (below_size (bl_ HB.out)))
         (case aL => have := LMc37.out; omega)
         intro v226 w53 ho hb hg hat
         rw [← Ny225.out] at ho
         have n0_ := Aside0.mk (Kd.R_after (ok := (fun k_ => some k_ ≠ (v230 : Value).ownBlock)) (rk_ (Kd.R_mono HO_6.out (fun _ hk => ⟨hk.1.2, hk.2⟩))) hg hat)
         have n1_ := Aside0.mk (Kd.R_after (ok := (fun k_ => some k_ ≠ (.slice (some ad208) x6_2.length co43 : Value).ownBlock)) (rk_ (Kd.R_mono HO231.out (fun _ hk => ⟨hk.1.2, hk.2⟩))) hg hat)
         have n2_ := Aside0.mk (hb)
         have n3_ := Aside0.mk (ho)
         clear HO_6
         clear HO231
         clear HB
         clear HO220
         have HO_6 := n0_
         have HO231 := n1_
         have HB := n2_
         have HO227 := n3_
         clear n0_ n1_ n2_ n3_
         clear ho hb hg hat
         refine hK.out _ _ ⟨(bc_ HB.out hw228_0 :), (bc_ HB.out hw228_1 :), (bc_ HB.out hw228_2 :)⟩ (fun hHeld => ?_)
         clear hK K
         refine norm_ (a' := ?_) ?_ ?_
         rotate_left
         ·show Act.put _ (some 93) _ = _
          simp only [pz_]
          rfl
         exact norm_ (by simp only [putAll, Act.put, List.setIfInBounds_toArray, List.set_cons_zero, List.set_cons_succ]) (hCont (v219, v226, v230) _ ⟨hHeld, (rk_ (Kd.R_mono HO227.out (fun _ hk => ⟨hk.2, hk.1⟩))), (rk_ (Kd.R_mono HO231.out (fun _ hk => ⟨hk.2, hk.1⟩))), (rk_ (Kd.R_mono HO_6.out (fun _ hk => ⟨hk.2, hk.1⟩))), (bl_ HB.out)⟩)
       rintro ⟨v219, v226, v230⟩ w54 ⟨hS_, h0_, h1_, h2_, h3_⟩
       have n0_ : Aside0 (Kd.R k81 81 w54 w.heap.size (fun k_ => some k_ ≠ (v230 : Value).ownBlock ∧ some k_ ≠ (.slice (some ad208) x6_2.length co43 : Value).ownBlock) v226 y225) := ⟨h0_⟩
       have n1_ : Aside0 (Kd.R k81 81 w54 w.heap.size (fun k_ => some k_ ≠ (v226 : Value).ownBlock ∧ some k_ ≠ (.slice (some ad208) x6_2.length co43 : Value).ownBlock) v230 y229) := ⟨h1_⟩
       have n2_ : Aside0 (Kd.R k81 81 w54 w.heap.size (fun k_ => some k_ ≠ (v226 : Value).ownBlock ∧ some k_ ≠ (v230 : Value).ownBlock) (.slice (some ad208) x6_2.length co43) x6_2) := ⟨h2_⟩
       have n3_ : Aside0 (Below w.heap.size w w54) := ⟨h3_⟩
       clear HO_6
       clear HB
       clear h0_ h1_ h2_ h3_
       have HO227 := n0_
       have HO231 := n1_
       have HO_6 := n2_
       have HB := n3_
       clear n0_ n1_ n2_ n3_
       have hHeld : w54.cell? (ad209.add ((x7_2).toNat * 3)) = some (.int .i64 ((rd_T81 l1 x7_2).f0)) ∧ w54.cell? ⟨(ad209.add ((x7_2).toNat * 3)).block, (ad209.add ((x7_2).toNat * 3)).off + 1, none⟩ = some (.int .i64 ((rd_T81 l1 x7_2).f1)) ∧ w54.cell? ⟨(ad209.add ((x7_2).toNat * 3)).block, (ad209.add ((x7_2).toNat * 3)).off + 2, none⟩ = some (.int .i64 ((rd_T81 l1 x7_2).f2)) := hS_
       obtain ⟨Ao56, co56, eo56⟩ := Kd.R_slice HO231.out
       (first | subst eo56 | (injection eo56 with f1_ f2_ f3_; have f4_ := f1_.symm; have f5_ := f3_.symm; clear f1_ f2_ f3_; subst f4_; subst f5_))
       refine norm_ (a' := ?_) ?_ ?_
       rotate_left
       ·simp only [putAll, Act.put, List.setIfInBounds_toArray, List.set_cons_zero, List.set_cons_succ]
        rfl
       refine one_ (i := 10) (N := some 99) #[t_,t_,t_,t_,t_,t_,t_,t_,t_,t_,t_,t_,t_,t_,f_,f_] rfl rfl (one_of HT_.out (by kernel_rfl)) (by decide) (fun K hK => ?_)
       refine Kd.R_append_rows_step k81 (w0 := w) w.heap.size (by rfl) (.tmp 93) (.tmp 98) 29 81 (.agg #[(.int .i64 0), (.int .i64 0), (.int .i64 0)]) 24 rfl Try.underlying29 info81 rfl (by decide) (by omega) v226 y225 y229 _ _ _ (fun k_ => some k_ ≠ (.slice (some ad208) x6_2.length co43 : Value).ownBlock ∧ some k_ ≠ (.slice Ao56 y229.length co56 : Value).ownBlock) (fun _ => False) rfl rfl ?aO ?aR (fun _ _ h => h) (fun _ h => h.elim) ?aF ?aB ?aS ?aL ?_
       (case aR => exact r6_ HO231.out)
       (case aB => exact (bl_ HB.out))
       (case aF => exact (fun k_ hk => ⟨Kd.fresh' (Kd.R_lt (rk_ HO_6.out)) k_ hk, Kd.fresh' (Kd.R_lt (rk_ HO231.out)) k_ hk⟩))
       (case aO => exact (rk_ (Kd.R_mono HO227.out (fun _ hk => ⟨hk.2, hk.1⟩))))
       (case aS => exact (below_size (bl_ HB.out)))
       (case aL => have := LMc38.out; omega)
       intro v233 w55 ho hb hg hat
       rw [← Ny232.out] at ho
       have n0_ := Aside0.mk (Kd.R_after (ok := (fun k_ => some k_ ≠ (.slice Ao56 y229.length co56 : Value).ownBlock)) (rk_ (Kd.R_mono HO_6.out (fun _ hk => ⟨hk.2, hk.1⟩))) hg hat)
       have n1_ := Aside0.mk (Kd.R_after (ok := (fun k_ => some k_ ≠ (.slice (some ad208) x6_2.length co43 : Value).ownBlock)) (rk_ (Kd.R_mono HO231.out (fun _ hk => ⟨hk.2, hk.1⟩))) hg hat)
       have n2_ := Aside0.mk (hb)
       have n3_ := Aside0.mk (ho)
       clear HO_6
       clear HO231
       clear HB
       clear HO227
       have HO_6 := n0_
       have HO231 := n1_
       have HB := n2_
       have HO234 := n3_
       clear n0_ n1_ n2_ n3_
       clear ho hb hg hat
       refine hK.out _ _ ⟨(bc_ HB.out hw228_0 :), (bc_ HB.out hw228_1 :), (bc_ HB.out hw228_2 :)⟩ (fun hHeld => ?_)
       clear hK K
       refine norm_ (a' := ?_) ?_ ?_
       rotate_left
       ·show Act.put _ (some 99) _ = _
        simp only [pz_]
        rfl
       refine one_ (i := 14) (N := some 103) #[t_,t_,t_,t_,t_,t_,t_,t_,t_,t_,t_,t_,t_,t_,t_,f_] rfl rfl (one_of HT_.out (by kernel_rfl)) (by decide) (fun K hK => ?_)
       refine Kd.R_append_rows_step k81 (w0 := w) w.heap.size (by rfl) (.tmp 99) (.tmp 102) 29 81 (.agg #[(.int .i64 0), (.int .i64 0), (.int .i64 0)]) 24 rfl Try.underlying29 info81 rfl (by decide) (by omega) v233 y232 y235 _ _ _ (fun k_ => some k_ ≠ (.slice (some ad208) x6_2.length co43 : Value).ownBlock ∧ some k_ ≠ (.slice Ao56 y229.length co56 : Value).ownBlock) (fun _ => False) rfl rfl ?aO ?aR (fun _ _ h => h) (fun _ h => h.elim) ?aF ?aB ?aS ?aL ?_
       (case aR => repeat (first | exact (by rw [KA48.out, Ny235.out]; exact Kd.C_drop (m := (x8_3 : Int).toNat) (c := co43) (Kd.R_reads' HO_6.out).2.2 hm48_.out hq48_.out) | (with_reducible refine Kd.C_alloc ?_ _) | (with_reducible refine Kd.C_drewN ?_ _) | (with_reducible refine Kd.C_drew ?_)))
       (case aB => exact (bl_ HB.out))
       (case aF => exact (fun k_ hk => ⟨Kd.fresh' (Kd.R_lt (rk_ HO_6.out)) k_ hk, Kd.fresh' (Kd.R_lt (rk_ HO231.out)) k_ hk⟩))
       (case aO => exact (rk_ HO234.out))
       (case aS => exact (below_size (bl_ HB.out)))
       (case aL => have := LMc41.out; omega)
       intro v240 w57 ho hb hg hat
       rw [← Ny239.out] at ho
       have n0_ := Aside0.mk (Kd.R_after (ok := (fun k_ => some k_ ≠ (.slice Ao56 y229.length co56 : Value).ownBlock)) (rk_ HO_6.out) hg hat)
       have n1_ := Aside0.mk (Kd.R_after (ok := (fun k_ => some k_ ≠ (.slice (some ad208) x6_2.length co43 : Value).ownBlock)) (rk_ HO231.out) hg hat)
       have n2_ := Aside0.mk (hb)
       have n3_ := Aside0.mk (ho)
       clear HO_6
       clear HO231
       clear HB
       clear HO234
       have HO_6 := n0_
       have HO231 := n1_
       have HB := n2_
       have HO241 := n3_
       clear n0_ n1_ n2_ n3_
       clear ho hb hg hat
       refine hK.out _ _ ⟨(bc_ HB.out hw228_0 :), (bc_ HB.out hw228_1 :), (bc_ HB.out hw228_2 :)⟩ (fun hHeld => ?_)
       clear hK K
       refine norm_ (a' := ?_) ?_ ?_
       rotate_left
       ·show Act.put _ (some 103) _ = _
        simp only [pz_]
        rfl
       refine pu_ 15 6 #[t_,t_,t_,t_,t_,t_,t_,t_,t_,t_,t_,t_,t_,t_,t_,t_] HT_.out ?_
       refine done_ (done_of HT_.out (by kernel_rfl)) ?_
       try go_wp2
       go_roundg k3
       case measure => have := HJ2.out; have := HK2.out; have := HK3.out; omega
       case rel => exact ⟨(y239), (wrap64 (x7_2 + 1)), rs_, H', ⟨by have := HJ2.out; have := HK2.out; have := HK3.out; omega⟩, ⟨rk_ (Kd.R_mono HO241.out (fun _ hk => trivial))⟩, ⟨bl_ HB.out⟩⟩
end Go.Proofs.Ytedcdhnbceaaeaa.PFnTables
