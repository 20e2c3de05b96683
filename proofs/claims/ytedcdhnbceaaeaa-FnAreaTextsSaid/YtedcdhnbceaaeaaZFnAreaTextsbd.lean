/- QFnAreaTextse of the law FnAreaTexts: taken over, declaration by declaration, as far as the law leans on it (the words and the printed functions are the kit's own print). No condition but what each says. -/
import Derived.Test.YtedcdhnbceaaeaaZFnAreaTextsav
import Derived.Test.YtedcdhnbceaaeaaZFnAreaTextsaw
import Derived.Test.YtedcdhnbceaaeaaZFnAreaTextsax
import Derived.Test.YtedcdhnbceaaeaaZFnAreaTextsay
import Derived.Test.YtedcdhnbceaaeaaZFnAreaTextsbb
import Derived.Test.YtedcdhnbceaaeaaZFnAreaTextsbc
namespace Go.Proofs.Ytedcdhnbceaaeaa.PFnAreaTexts
open Go.RowKit Go.Proofs.YtedcdhnbceaaeaaW.PrintWords Go.Proofs.YtedcdhnbceaaeaaW.PrintLast Go.Proofs.YtedcdhnbceaaeaaW.PrintMore
attribute [local go_sem] max2_int min2_int max_two min_two max_three min_three max_four min_four   -- for this text's walks alone
set_option linter.unusedVariables false
set_option linter.unusedSimpArgs false
open Bool renaming true → t_, false → f_
def spec_DrawAreaText.f (k : Nat) (l0 : List Int) : Option (Int × Int × Int × Int × Int) := (spec_l01From.f k l0).bind fun bt287 => ((spec_l15Draw.f bt287.1 bt287.2.1 bt287.2.2).bind fun bt291 => (some (bt291.1, bt291.2.1, bt291.2.2.1, bt291.2.2.2.1, bt291.2.2.2.2.1)))
set_option maxHeartbeats 8000000 in
set_option maxRecDepth 100000 in
theorem spec_DrawAreaText.calls (k : Nat) (A0 : Option Addr) (c0 : Nat) (l0 : List Int) (r1 : Int) (r2 : Int) (r3 : Int) (r4 : Int) (r5 : Int) (w : World) (hr0 : Kd.C (Kd.int .u8) w A0 l0.length l0) (hc0 : l0.length ≤ c0) (h : spec_DrawAreaText.f k l0 = some (r1, r2, r3, r4, r5)) :
  Calls Try.prog 104 #[.slice A0 l0.length c0] w fun e w' => e = .returned (.agg #[.int .i64 r1, .int .i64 r2, .int .i64 r3, .int .i64 r4, .int .i64 r5]) ∧ Below w.heap.size w w' := by
 have hu83 := Try.underlying83
 have HR0 := Aside0.mk hr0
 have HC0 := Aside0.mk hc0
 clear hr0 hc0
 have HB := Aside0.mk (Below.refl w.heap.size w)
 have H : ((spec_l01From.f k l0).bind fun bt287 => ((spec_l15Draw.f bt287.1 bt287.2.1 bt287.2.2).bind fun bt291 => (some (bt291.1, bt291.2.1, bt291.2.2.1, bt291.2.2.2.1, bt291.2.2.2.2.1)))) = some (r1, r2, r3, r4, r5) := h
 clear h
 replace H := Option.bind_eq_some_iff.mp H
 obtain ⟨⟨t287, t288, t289⟩, A20, H⟩ := H
 replace H : ((spec_l15Draw.f t287 t288 t289).bind fun bt291 => (some (bt291.1, bt291.2.1, bt291.2.2.1, bt291.2.2.2.1, bt291.2.2.2.2.1))) = some (r1, r2, r3, r4, r5) := H
 have A2 := Aside0.mk A20
 clear A20
 replace H := Option.bind_eq_some_iff.mp H
 obtain ⟨⟨t291, t292, t293, t294, t295, t296, t297⟩, A30, H⟩ := H
 replace H : (some (t291, t292, t293, t294, t295)) = some (r1, r2, r3, r4, r5) := H
 have A3 := Aside0.mk A30
 clear A30
 simp only [Option.some.injEq, Prod.mk.injEq] at H
 obtain ⟨rfl, rfl, rfl, rfl, rfl⟩ := H
 go_enter Try.func104, Try.ntmps104
 go_wp2_with (first | ((with_reducible refine gate_dst (N := 2) rfl ?_); refine box_event ?hg (N := 2) ?hd (cs := #[.int .i64 0, .int .i64 0, .int .i64 0, .int .i64 0, .int .i64 0]) (t := 83) ?hr ?_; (case hd => rfl); (case hg => rfl); (case hr => first | (go_simp; done) | (go_simp; rfl)); intro gb286 hg w4 hbox hb; have BK286 := Aside0.mk (hbox); have GW286 := Aside0.mk ((by rw [hg]; exact (below_size (bl_ HB.out)) : w.heap.size ≤ gb286)); have GE286 := Aside0.mk ((by rw [hg]; exact (below_size (bl_ HB.out)) : w.heap.size ≤ gb286)); replace HB := Aside0.mk (below_step (bl_ HB.out) hb); clear hb hbox hg) | ((with_reducible refine gate_callee (f := 123) rfl ?_); refine goesL_ (some 4) rfl rfl Try.func123 (by kernel_rfl) rfl #[.slice A0 l0.length c0] rfl ag_ ?_; (with_reducible refine (spec_l01From.calls k _ _ l0 t287 t288 t289 w _ ?side1 ?side2 ?side3 A2.out).mono ?_); (case side1 => exact r1_ HB.out GE286.out); (case side2 => exact HR0.out); (case side3 => exact HC0.out); rintro e w5 ⟨g290, rfl, hi, hb, hb2⟩; refine ⟨_, rfl, ?_⟩; replace HB := Aside0.mk (hb); have HI290 := Aside0.mk (hi); have NB290_286 := Aside0.mk (IsS215.ne_blk hi (blk_below (g := gb286) (o := .cells #[.int .i64 0, .int .i64 0, .int .i64 0, .int .i64 0, .int .i64 0] 83 (0, 0)) (r0_ BK286.out) hb2) (by decide)); have NB286_290 := Aside0.mk (Ne.symm (IsS215.ne_blk hi (blk_below (g := gb286) (o := .cells #[.int .i64 0, .int .i64 0, .int .i64 0, .int .i64 0, .int .i64 0] 83 (0, 0)) (r0_ BK286.out) hb2) (by decide))); replace BK286 := Aside0.mk (blk_below (g := gb286) (o := .cells #[.int .i64 0, .int .i64 0, .int .i64 0, .int .i64 0, .int .i64 0] 83 (0, 0)) (r0_ BK286.out) hb2); (try clear hb); (try clear hb2); (try clear hk); (try clear hi)) | ((with_reducible refine gate_callee (f := 194) rfl ?_); refine goesL_ (some 5) rfl rfl Try.func194 (by kernel_rfl) rfl #[.pointer (some ⟨g290, 0, none⟩)] rfl ag_ ?_; (with_reducible refine (spec_l15Draw.calls g290 t287 t288 t289 t291 t292 t293 t294 t295 t296 t297 w _ ?side1 ?side2 A3.out).mono ?_); (case side1 => exact r6_ HI290.out NB290_286.out); (case side2 => exact r10_ HB.out HI290.out GE286.out); rintro e w6 ⟨rfl, hi, hb, hk⟩; refine ⟨_, rfl, ?_⟩; replace BK286 := Aside0.mk (KeepBut.blk hk (g' := gb286) (o := .cells #[.int .i64 0, .int .i64 0, .int .i64 0, .int .i64 0, .int .i64 0] 83 (0, 0)) (r0_ BK286.out) NB286_290.out (by simp)); replace HB := Aside0.mk (hb); replace HI290 := Aside0.mk (hi); (try clear hb); (try clear hb2); (try clear hk); (try clear hi); have hnb7 := NB286_290.out; have hnc7 := NB290_286.out; have hcz8_0 : w6.cell? ⟨gb286, 0, none⟩ = some (.int .i64 0) := (blk_cell BK286.out 0).trans rfl; have hcz8_1 : w6.cell? ⟨gb286, 1, none⟩ = some (.int .i64 0) := (blk_cell BK286.out 1).trans rfl; have hcz8_2 : w6.cell? ⟨gb286, 2, none⟩ = some (.int .i64 0) := (blk_cell BK286.out 2).trans rfl; have hcz8_3 : w6.cell? ⟨gb286, 3, none⟩ = some (.int .i64 0) := (blk_cell BK286.out 3).trans rfl; have hcz8_4 : w6.cell? ⟨gb286, 4, none⟩ = some (.int .i64 0) := (blk_cell BK286.out 4).trans rfl; have hfz8_0 := blk_frozen BK286.out 0; have hfz8_1 := blk_frozen BK286.out 1; have hfz8_2 := blk_frozen BK286.out 2; have hfz8_3 := blk_frozen BK286.out 3; have hfz8_4 := blk_frozen BK286.out 4))
 refine bodyPost_ret (results_cell_row rfl _ _ gb286 83 #[.int .i64 t291, .int .i64 t292, .int .i64 t293, .int .i64 t294, .int .i64 t295] (0, 0) _ rfl (by (with_reducible repeat (first | refine blk_drewN ?_ _ | refine blk_drew ?_ | refine blk_alloc ?_ _)); refine blk_put (cs := #[.int .i64 t291, .int .i64 t292, .int .i64 t293, .int .i64 t294, .int .i64 0]) ?_ 4 _ rfl; (with_reducible repeat (first | refine blk_drewN ?_ _ | refine blk_drew ?_ | refine blk_alloc ?_ _)); refine blk_put (cs := #[.int .i64 t291, .int .i64 t292, .int .i64 t293, .int .i64 0, .int .i64 0]) ?_ 3 _ rfl; (with_reducible repeat (first | refine blk_drewN ?_ _ | refine blk_drew ?_ | refine blk_alloc ?_ _)); refine blk_put (cs := #[.int .i64 t291, .int .i64 t292, .int .i64 0, .int .i64 0, .int .i64 0]) ?_ 2 _ rfl; (with_reducible repeat (first | refine blk_drewN ?_ _ | refine blk_drew ?_ | refine blk_alloc ?_ _)); refine blk_put (cs := #[.int .i64 t291, .int .i64 0, .int .i64 0, .int .i64 0, .int .i64 0]) ?_ 1 _ rfl; (with_reducible repeat (first | refine blk_drewN ?_ _ | refine blk_drew ?_ | refine blk_alloc ?_ _)); refine blk_put (cs := #[.int .i64 0, .int .i64 0, .int .i64 0, .int .i64 0, .int .i64 0]) ?_ 0 _ rfl; (with_reducible repeat (first | refine blk_drewN ?_ _ | refine blk_drew ?_ | refine blk_alloc ?_ _)); exact BK286.out) Try.underlying83 rfl (by kernel_rfl)) rfl ?_
 exact ⟨by first | rfl | (simp [errW_none, errW_some] <;> rfl) | (simp [*, errW_none, errW_some] <;> rfl), r10_ HB.out HI290.out GE286.out⟩
mutual
def impl_decimal.l0 : Nat → Int → ByteArray → Option (ByteArray)
 | 0, _, _ => none
 | k + 1, x0, x3 => (some (([(wrap64 (48 + (Int.tmod x0 10))) % 256] : List Int) : List Int)).bind fun y299 => (if (strOfNums y299).size + x3.size ≤ 9223372036854775807 then (if (wrap64 (Int.tdiv x0 10)) = 0 then (some ((strOfNums y299) ++ x3)) else (impl_decimal.l0 k (wrap64 (Int.tdiv x0 10)) ((strOfNums y299) ++ x3))) else (none))
def impl_decimal.f : Nat → Int → Option (ByteArray)
 | 0, _ => none
 | k + 1, a0 => if a0 < 0 then ((impl_decimal.f k (wrap64 (-a0))).bind fun t298 => (if 1 + t298.size ≤ 9223372036854775807 then (some ((⟨#[45]⟩ : ByteArray) ++ t298)) else (none))) else (impl_decimal.l0 k a0 (⟨#[]⟩ : ByteArray))
end
set_option maxHeartbeats 8000000 in
set_option maxRecDepth 100000 in
theorem impl_decimal.calls (k : Nat) : ∀ (a0 : Int) (r : ByteArray) (w : World) (h : impl_decimal.f k a0 = some r),
  Calls Try.prog 219 #[.int .i64 a0] w fun e w' => e = .returned (.string r) ∧ Below w.heap.size w w' := by
 induction k using Nat.strongRecOn with
 | _ k ih =>
 intro a0 r w h
 cases k with
 | zero => exact absurd h (by simp [impl_decimal.f])
 | succ k =>
 simp only [impl_decimal.f] at h
 have HB := Aside0.mk (Below.refl w.heap.size w)
 have H : (if a0 < 0 then ((impl_decimal.f k (wrap64 (-a0))).bind fun t298 => (if 1 + t298.size ≤ 9223372036854775807 then (some ((⟨#[45]⟩ : ByteArray) ++ t298)) else (none))) else (impl_decimal.l0 k a0 (⟨#[]⟩ : ByteArray))) = some r := h
 clear h
 by_cases c2 : a0 < 0
 ·rw [if_pos c2] at H
  have c2b0 : decide (a0 < 0) = true := decide_eq_true c2
  clear c2
  replace H := Option.bind_eq_some_iff.mp H
  obtain ⟨t298, A30, H⟩ := H
  replace H : (if 1 + t298.size ≤ 9223372036854775807 then (some ((⟨#[45]⟩ : ByteArray) ++ t298)) else (none)) = some r := H
  have A3 := Aside0.mk A30
  clear A30
  by_cases c4 : 1 + t298.size ≤ 9223372036854775807
  case neg =>
   rw [if_neg c4] at H
   exact absurd H (by simp)
  rw [if_pos c4] at H
  have c4b0 := eq_true c4
  have c4b1 : decide (1 + t298.size ≤ 9223372036854775807) = true := decide_eq_true c4
  try have c4b2 : (9223372036854775807 < 1 + t298.size) = False := eq_false (Nat.not_lt.2 c4)
  obtain rfl := Option.some.inj H
  go_enter Try.func219, Try.ntmps219
  go_wp2_with (first | ((with_reducible refine gate_callee (f := 219) rfl ?_); refine goesL_ (some 8) rfl rfl Try.func219 (by kernel_rfl) rfl #[.int .i64 (wrap64 (-a0))] rfl ag_ ?_; (with_reducible refine (ih k (by omega) (wrap64 (-a0)) t298 _ A3.out).mono ?_); rintro e w5 ⟨rfl, hb⟩; refine ⟨_, rfl, ?_⟩; replace HB := Aside0.mk (below_step (bl_ HB.out) hb); (try clear hb); (try clear hb2); (try clear hk); (try clear hi)))
  go_ret
  exact ⟨by first | rfl | (simp [errW_none, errW_some] <;> rfl) | (simp [*, errW_none, errW_some] <;> rfl), bl_ HB.out⟩
 ·rw [if_neg c2] at H
  have c2b0 : decide (a0 < 0) = false := decide_eq_false c2
  clear c2
  have H' := Aside0.mk H
  clear H
  go_enter Try.func219, Try.ntmps219
  go_wp2
  go_loopg [0, 3] k (fun kq v0 v3 w' => ∃ (x0_1 : Int) (x3_1 : ByteArray), v0 = .int .i64 x0_1 ∧ v3 = .string x3_1 ∧ Aside0 (impl_decimal.l0 kq x0_1 x3_1 = some r) ∧ Aside0 (kq ≤ k) ∧ Aside0 (Below w.heap.size w w'))
  case atStart => exact ⟨(a0), ((⟨#[]⟩ : ByteArray)), (by first | rfl | (simp; done) | (simp [*]; done)), (by first | rfl | (simp; done) | (simp [*]; done)), H', ⟨Nat.le_refl _⟩, ⟨bl_ HB.out⟩⟩
  case round =>
   clear H'
   try clear c2
   try clear c2b0
   try clear p2
   try clear c4
   try clear c4b0
   try clear c4b1
   try clear c4b2
   obtain ⟨x0_1, x3_1, rfl, rfl, HA, HK1, HB⟩ := hrel
   cases gk with
   | zero => exact absurd HA.out (by simp [impl_decimal.l0])
   | succ k1 =>
    have H := HA.out
    clear HA
    simp only [impl_decimal.l0] at H
    obtain ⟨y299, hy299⟩ : ∃ y_ : List Int, y_ = (([(wrap64 (48 + (Int.tmod x0_1 10))) % 256] : List Int)) := ⟨_, rfl⟩
    replace H : (if (strOfNums y299).size + x3_1.size ≤ 9223372036854775807 then (if (wrap64 (Int.tdiv x0_1 10)) = 0 then (some ((strOfNums y299) ++ x3_1)) else (impl_decimal.l0 k1 (wrap64 (Int.tdiv x0_1 10)) ((strOfNums y299) ++ x3_1))) else (none)) = some r := by first | (rw [hy299]; with_reducible exact H) | (have H2_ := (Option.bind_some _ _).symm.trans H; rw [hy299]; with_reducible exact H2_) | (have H2_ := (Option.bind_some _ _).symm.trans H; with_reducible exact H2_) | with_reducible exact H | (rw [hy299]; exact H) | exact H
    have Ny299 := Aside0.mk hy299
    clear hy299
    by_cases c6 : (strOfNums y299).size + x3_1.size ≤ 9223372036854775807
    case neg =>
     rw [if_neg c6] at H
     exact absurd H (by simp)


    rw [if_pos c6] at H
    have c6b0 := eq_true c6
    have c6b1 : decide ((strOfNums y299).size + x3_1.size ≤ 9223372036854775807) = true := decide_eq_true c6
    try have c6b2 : (9223372036854775807 < (strOfNums y299).size + x3_1.size) = False := eq_false (Nat.not_lt.2 c6)
    by_cases c7 : (wrap64 (Int.tdiv x0_1 10)) = 0
    ·rw [if_pos c7] at H
     have c7b0 : ((wrap64 (Int.tdiv x0_1 10)) == 0) = true := beq_iff_eq.mpr c7
     have c7b1 : ((wrap64 (Int.tdiv x0_1 10)) != 0) = false := bne_eq_false_iff_eq.mpr c7
     clear c7
     obtain rfl := Option.some.inj H
     go_wp2_with (first | ((with_reducible refine gate_dst (N := 14) rfl ?_); refine Kd.R_lit (Kd.int .u8) _ 5 ?hg (N := 14) ?hd (xs := ([(wrap64 (48 + (Int.tmod x0_1 10))) % 256] : List Int)) (inner := [.int .u8 ((wrap64 (48 + (Int.tmod x0_1 10))) % 256)]) (ok := fun _ => True) (okp := fun _ => True) ?hr ?hp (fun _ hk => hk) trivial (Below.refl _ _) (Nat.le_refl _) (by simp) ?_; (case hd => rfl); (case hg => rfl); (case hr => first | (go_simp; done) | (go_simp; rfl)); (case hp => exact (Reps.one (show Kd.M (Kd.int .u8) _ _ _ ((wrap64 (48 + (Int.tmod x0_1 10))) % 256) [.int .u8 ((wrap64 (48 + (Int.tmod x0_1 10))) % 256)] from rfl) (Reps.none _ _))); intro v300 w8 ho9 hb hg_ hnew_; clear hg_ hnew_; (first | rw [← Ny299.out] at ho9 | (simp only [Int.reduceToNat] at ho9; rw [← Ny299.out] at ho9)); have HO301 := Aside0.mk (Kd.R_lower ho9 (below_size (bl_ HB.out))); replace HB := Aside0.mk (below_step (bl_ HB.out) hb); clear hb ho9; have hcv10 := own_string (P := Try.prog) Try.underlying41 Try.underlying5 Try.underlying9 (Kd.own_of_R HO301.out)))
     go_ret
     exact ⟨by first | rfl | (simp [errW_none, errW_some] <;> rfl) | (simp [*, errW_none, errW_some] <;> rfl), bl_ HB.out⟩
    ·rw [if_neg c7] at H
     have c7b0 : ((wrap64 (Int.tdiv x0_1 10)) == 0) = false := beq_eq_false_iff_ne.mpr c7
     have c7b1 : ((wrap64 (Int.tdiv x0_1 10)) != 0) = true := bne_iff_ne.mpr c7
     have H' := Aside0.mk H
     clear H
     go_wp2_with (first | ((with_reducible refine gate_dst (N := 14) rfl ?_); refine Kd.R_lit (Kd.int .u8) _ 5 ?hg (N := 14) ?hd (xs := ([(wrap64 (48 + (Int.tmod x0_1 10))) % 256] : List Int)) (inner := [.int .u8 ((wrap64 (48 + (Int.tmod x0_1 10))) % 256)]) (ok := fun _ => True) (okp := fun _ => True) ?hr ?hp (fun _ hk => hk) trivial (Below.refl _ _) (Nat.le_refl _) (by simp) ?_; (case hd => rfl); (case hg => rfl); (case hr => first | (go_simp; done) | (go_simp; rfl)); (case hp => exact (Reps.one (show Kd.M (Kd.int .u8) _ _ _ ((wrap64 (48 + (Int.tmod x0_1 10))) % 256) [.int .u8 ((wrap64 (48 + (Int.tmod x0_1 10))) % 256)] from rfl) (Reps.none _ _))); intro v300 w11 ho12 hb hg_ hnew_; clear hg_ hnew_; (first | rw [← Ny299.out] at ho12 | (simp only [Int.reduceToNat] at ho12; rw [← Ny299.out] at ho12)); have HO301 := Aside0.mk (Kd.R_lower ho12 (below_size (bl_ HB.out))); replace HB := Aside0.mk (below_step (bl_ HB.out) hb); clear hb ho12; have hcv13 := own_string (P := Try.prog) Try.underlying41 Try.underlying5 Try.underlying9 (Kd.own_of_R HO301.out)))
     go_roundg k1
     case measure => have := HK1.out; omega
     case rel => exact ⟨(wrap64 (Int.tdiv x0_1 10)), ((strOfNums y299) ++ x3_1), (by first | rfl | (simp; done) | (simp [*]; done)), (by first | rfl | (simp; done) | (simp [*]; done)), H', ⟨by have := HK1.out; omega⟩, ⟨bl_ HB.out⟩⟩
def impl_areaText.f (k : Nat) (a0_0 : Int) (a0_1 : Int) (a0_2 : Int) (a0_3 : Int) (a0_4 : Int) : Option (ByteArray) := (impl_kindWord.f a0_0).bind fun t303 => (if t303.size + 1 ≤ 9223372036854775807 then ((impl_decimal.f k a0_1).bind fun t304 => (if (t303 ++ (⟨#[32]⟩ : ByteArray)).size + t304.size ≤ 9223372036854775807 then (if ((t303 ++ (⟨#[32]⟩ : ByteArray)) ++ t304).size + 1 ≤ 9223372036854775807 then ((impl_decimal.f k a0_2).bind fun t305 => (if (((t303 ++ (⟨#[32]⟩ : ByteArray)) ++ t304) ++ (⟨#[44]⟩ : ByteArray)).size + t305.size ≤ 9223372036854775807 then (if ((((t303 ++ (⟨#[32]⟩ : ByteArray)) ++ t304) ++ (⟨#[44]⟩ : ByteArray)) ++ t305).size + 1 ≤ 9223372036854775807 then ((impl_decimal.f k a0_3).bind fun t306 => (if (((((t303 ++ (⟨#[32]⟩ : ByteArray)) ++ t304) ++ (⟨#[44]⟩ : ByteArray)) ++ t305) ++ (⟨#[43]⟩ : ByteArray)).size + t306.size ≤ 9223372036854775807 then (if ((((((t303 ++ (⟨#[32]⟩ : ByteArray)) ++ t304) ++ (⟨#[44]⟩ : ByteArray)) ++ t305) ++ (⟨#[43]⟩ : ByteArray)) ++ t306).size + 1 ≤ 9223372036854775807 then ((impl_decimal.f k a0_4).bind fun t307 => (if (((((((t303 ++ (⟨#[32]⟩ : ByteArray)) ++ t304) ++ (⟨#[44]⟩ : ByteArray)) ++ t305) ++ (⟨#[43]⟩ : ByteArray)) ++ t306) ++ (⟨#[42]⟩ : ByteArray)).size + t307.size ≤ 9223372036854775807 then (some ((((((((t303 ++ (⟨#[32]⟩ : ByteArray)) ++ t304) ++ (⟨#[44]⟩ : ByteArray)) ++ t305) ++ (⟨#[43]⟩ : ByteArray)) ++ t306) ++ (⟨#[42]⟩ : ByteArray)) ++ t307)) else (none))) else (none)) else (none))) else (none)) else (none))) else (none)) else (none))) else (none))
def impl_areaText.T1 : Bool × List (List Nat × List Nat) := (true, [([], []), ([0], [0]), ([1], [1]), ([2], [2]), ([], []), ([4], [4]), ([5, 2], [5]), ([3, 6], [3, 6]), ([7], [7]), ([], []), ([9], [9]), ([10, 6], [10]), ([8, 11], [8, 11]), ([12], [12]), ([], []), ([14], [14]), ([15, 11], [15]), ([13, 16], [13, 16]), ([17], [17]), ([], []), ([19], [19]), ([20, 16], [20]), ([18, 21], [18, 21]), ([22, 21, 0, 1, 2, 3, 4, 5, 6, 7, 8, 9, 10, 11, 12, 13, 14, 15, 16, 17, 18, 19, 20, 21, 22], [22])])
def impl_areaText.B1 : List Nat := [0, 1, 3, 7, 0, 16, 55, 127, 255, 0, 512, 1655, 4095, 8191, 0, 16384, 52855, 131071, 262143, 0, 524288, 1691255, 4194303, 8388607]
theorem impl_areaText.tab1 : rtab .any (opsOf Try.f195 1) = impl_areaText.T1 := by kernel_rfl
theorem impl_areaText.bits1 : waitsOk impl_areaText.T1.2 impl_areaText.B1 = true := by kernel_rfl
set_option maxHeartbeats 8000000 in
set_option maxRecDepth 100000 in
theorem impl_areaText.calls (k : Nat) (a0_0 : Int) (a0_1 : Int) (a0_2 : Int) (a0_3 : Int) (a0_4 : Int) (r : ByteArray) (w : World) (h : impl_areaText.f k a0_0 a0_1 a0_2 a0_3 a0_4 = some r) :
  Calls Try.prog 195 #[.agg #[.int .i64 a0_0, .int .i64 a0_1, .int .i64 a0_2, .int .i64 a0_3, .int .i64 a0_4]] w fun e w' => e = .returned (.string r) ∧ Below w.heap.size w w' := by
 have hu83 := Try.underlying83
 have HB := Aside0.mk (Below.refl w.heap.size w)
 have H : ((impl_kindWord.f a0_0).bind fun t303 => (if t303.size + 1 ≤ 9223372036854775807 then ((impl_decimal.f k a0_1).bind fun t304 => (if (t303 ++ (⟨#[32]⟩ : ByteArray)).size + t304.size ≤ 9223372036854775807 then (if ((t303 ++ (⟨#[32]⟩ : ByteArray)) ++ t304).size + 1 ≤ 9223372036854775807 then ((impl_decimal.f k a0_2).bind fun t305 => (if (((t303 ++ (⟨#[32]⟩ : ByteArray)) ++ t304) ++ (⟨#[44]⟩ : ByteArray)).size + t305.size ≤ 9223372036854775807 then (if ((((t303 ++ (⟨#[32]⟩ : ByteArray)) ++ t304) ++ (⟨#[44]⟩ : ByteArray)) ++ t305).size + 1 ≤ 9223372036854775807 then ((impl_decimal.f k a0_3).bind fun t306 => (if (((((t303 ++ (⟨#[32]⟩ : ByteArray)) ++ t304) ++ (⟨#[44]⟩ : ByteArray)) ++ t305) ++ (⟨#[43]⟩ : ByteArray)).size + t306.size ≤ 9223372036854775807 then (if ((((((t303 ++ (⟨#[32]⟩ : ByteArray)) ++ t304) ++ (⟨#[44]⟩ : ByteArray)) ++ t305) ++ (⟨#[43]⟩ : ByteArray)) ++ t306).size + 1 ≤ 9223372036854775807 then ((impl_decimal.f k a0_4).bind fun t307 => (if (((((((t303 ++ (⟨#[32]⟩ : ByteArray)) ++ t304) ++ (⟨#[44]⟩ : ByteArray)) ++ t305) ++ (⟨#[43]⟩ : ByteArray)) ++ t306) ++ (⟨#[42]⟩ : ByteArray)).size + t307.size ≤ 9223372036854775807 then (some ((((((((t303 ++ (⟨#[32]⟩ : ByteArray)) ++ t304) ++ (⟨#[44]⟩ : ByteArray)) ++ t305) ++ (⟨#[43]⟩ : ByteArray)) ++ t306) ++ (⟨#[42]⟩ : ByteArray)) ++ t307)) else (none))) else (none)) else (none))) else (none)) else (none))) else (none)) else (none))) else (none))) = some r := h
 clear h
 replace H := Option.bind_eq_some_iff.mp H
 obtain ⟨t303, A20, H⟩ := H
 replace H : (if t303.size + 1 ≤ 9223372036854775807 then ((impl_decimal.f k a0_1).bind fun t304 => (if (t303 ++ (⟨#[32]⟩ : ByteArray)).size + t304.size ≤ 9223372036854775807 then (if ((t303 ++ (⟨#[32]⟩ : ByteArray)) ++ t304).size + 1 ≤ 9223372036854775807 then ((impl_decimal.f k a0_2).bind fun t305 => (if (((t303 ++ (⟨#[32]⟩ : ByteArray)) ++ t304) ++ (⟨#[44]⟩ : ByteArray)).size + t305.size ≤ 9223372036854775807 then (if ((((t303 ++ (⟨#[32]⟩ : ByteArray)) ++ t304) ++ (⟨#[44]⟩ : ByteArray)) ++ t305).size + 1 ≤ 9223372036854775807 then ((impl_decimal.f k a0_3).bind fun t306 => (if (((((t303 ++ (⟨#[32]⟩ : ByteArray)) ++ t304) ++ (⟨#[44]⟩ : ByteArray)) ++ t305) ++ (⟨#[43]⟩ : ByteArray)).size + t306.size ≤ 9223372036854775807 then (if ((((((t303 ++ (⟨#[32]⟩ : ByteArray)) ++ t304) ++ (⟨#[44]⟩ : ByteArray)) ++ t305) ++ (⟨#[43]⟩ : ByteArray)) ++ t306).size + 1 ≤ 9223372036854775807 then ((impl_decimal.f k a0_4).bind fun t307 => (if (((((((t303 ++ (⟨#[32]⟩ : ByteArray)) ++ t304) ++ (⟨#[44]⟩ : ByteArray)) ++ t305) ++ (⟨#[43]⟩ : ByteArray)) ++ t306) ++ (⟨#[42]⟩ : ByteArray)).size + t307.size ≤ 9223372036854775807 then (some ((((((((t303 ++ (⟨#[32]⟩ : ByteArray)) ++ t304) ++ (⟨#[44]⟩ : ByteArray)) ++ t305) ++ (⟨#[43]⟩ : ByteArray)) ++ t306) ++ (⟨#[42]⟩ : ByteArray)) ++ t307)) else (none))) else (none)) else (none))) else (none)) else (none))) else (none)) else (none))) else (none)) = some r := H
 have A2 := Aside0.mk A20
 clear A20
 by_cases c3 : t303.size + 1 ≤ 9223372036854775807
 case neg =>
  rw [if_neg c3] at H
  exact absurd H (by simp)


 rw [if_pos c3] at H
 have c3b0 := eq_true c3
 have c3b1 : decide (t303.size + 1 ≤ 9223372036854775807) = true := decide_eq_true c3
 try have c3b2 : (9223372036854775807 < t303.size + 1) = False := eq_false (Nat.not_lt.2 c3)
 replace H := Option.bind_eq_some_iff.mp H
 obtain ⟨t304, A40, H⟩ := H
 replace H : (if (t303 ++ (⟨#[32]⟩ : ByteArray)).size + t304.size ≤ 9223372036854775807 then (if ((t303 ++ (⟨#[32]⟩ : ByteArray)) ++ t304).size + 1 ≤ 9223372036854775807 then ((impl_decimal.f k a0_2).bind fun t305 => (if (((t303 ++ (⟨#[32]⟩ : ByteArray)) ++ t304) ++ (⟨#[44]⟩ : ByteArray)).size + t305.size ≤ 9223372036854775807 then (if ((((t303 ++ (⟨#[32]⟩ : ByteArray)) ++ t304) ++ (⟨#[44]⟩ : ByteArray)) ++ t305).size + 1 ≤ 9223372036854775807 then ((impl_decimal.f k a0_3).bind fun t306 => (if (((((t303 ++ (⟨#[32]⟩ : ByteArray)) ++ t304) ++ (⟨#[44]⟩ : ByteArray)) ++ t305) ++ (⟨#[43]⟩ : ByteArray)).size + t306.size ≤ 9223372036854775807 then (if ((((((t303 ++ (⟨#[32]⟩ : ByteArray)) ++ t304) ++ (⟨#[44]⟩ : ByteArray)) ++ t305) ++ (⟨#[43]⟩ : ByteArray)) ++ t306).size + 1 ≤ 9223372036854775807 then ((impl_decimal.f k a0_4).bind fun t307 => (if (((((((t303 ++ (⟨#[32]⟩ : ByteArray)) ++ t304) ++ (⟨#[44]⟩ : ByteArray)) ++ t305) ++ (⟨#[43]⟩ : ByteArray)) ++ t306) ++ (⟨#[42]⟩ : ByteArray)).size + t307.size ≤ 9223372036854775807 then (some ((((((((t303 ++ (⟨#[32]⟩ : ByteArray)) ++ t304) ++ (⟨#[44]⟩ : ByteArray)) ++ t305) ++ (⟨#[43]⟩ : ByteArray)) ++ t306) ++ (⟨#[42]⟩ : ByteArray)) ++ t307)) else (none))) else (none)) else (none))) else (none)) else (none))) else (none)) else (none)) = some r := H
 have A4 := Aside0.mk A40
 clear A40
 by_cases c5 : (t303 ++ (⟨#[32]⟩ : ByteArray)).size + t304.size ≤ 9223372036854775807
 case neg =>
  rw [if_neg c5] at H
  exact absurd H (by simp)
 rw [if_pos c5] at H
 have c5b0 := eq_true c5
 have c5b1 : decide ((t303 ++ (⟨#[32]⟩ : ByteArray)).size + t304.size ≤ 9223372036854775807) = true := decide_eq_true c5
 try have c5b2 : (9223372036854775807 < (t303 ++ (⟨#[32]⟩ : ByteArray)).size + t304.size) = False := eq_false (Nat.not_lt.2 c5)
 have c5b3 : (9223372036854775807 < t303.size + 1 + t304.size) = False := eq_false (Nat.not_lt.2 (by have h_ := c5; simp only [ByteArray.size_append] at h_; exact h_))
 by_cases c6 : ((t303 ++ (⟨#[32]⟩ : ByteArray)) ++ t304).size + 1 ≤ 9223372036854775807
 case neg =>
  rw [if_neg c6] at H
  exact absurd H (by simp)
 rw [if_pos c6] at H
 have c6b0 := eq_true c6
 have c6b1 : decide (((t303 ++ (⟨#[32]⟩ : ByteArray)) ++ t304).size + 1 ≤ 9223372036854775807) = true := decide_eq_true c6
 try have c6b2 : (9223372036854775807 < ((t303 ++ (⟨#[32]⟩ : ByteArray)) ++ t304).size + 1) = False := eq_false (Nat.not_lt.2 c6)
 have c6b3 : (9223372036854775807 < t303.size + 1 + t304.size + 1) = False := eq_false (Nat.not_lt.2 (by have h_ := c6; simp only [ByteArray.size_append] at h_; exact h_))
 replace H := Option.bind_eq_some_iff.mp H
 obtain ⟨t305, A70, H⟩ := H
 replace H : (if (((t303 ++ (⟨#[32]⟩ : ByteArray)) ++ t304) ++ (⟨#[44]⟩ : ByteArray)).size + t305.size ≤ 9223372036854775807 then (if ((((t303 ++ (⟨#[32]⟩ : ByteArray)) ++ t304) ++ (⟨#[44]⟩ : ByteArray)) ++ t305).size + 1 ≤ 9223372036854775807 then ((impl_decimal.f k a0_3).bind fun t306 => (if (((((t303 ++ (⟨#[32]⟩ : ByteArray)) ++ t304) ++ (⟨#[44]⟩ : ByteArray)) ++ t305) ++ (⟨#[43]⟩ : ByteArray)).size + t306.size ≤ 9223372036854775807 then (if ((((((t303 ++ (⟨#[32]⟩ : ByteArray)) ++ t304) ++ (⟨#[44]⟩ : ByteArray)) ++ t305) ++ (⟨#[43]⟩ : ByteArray)) ++ t306).size + 1 ≤ 9223372036854775807 then ((impl_decimal.f k a0_4).bind fun t307 => (if (((((((t303 ++ (⟨#[32]⟩ : ByteArray)) ++ t304) ++ (⟨#[44]⟩ : ByteArray)) ++ t305) ++ (⟨#[43]⟩ : ByteArray)) ++ t306) ++ (⟨#[42]⟩ : ByteArray)).size + t307.size ≤ 9223372036854775807 then (some ((((((((t303 ++ (⟨#[32]⟩ : ByteArray)) ++ t304) ++ (⟨#[44]⟩ : ByteArray)) ++ t305) ++ (⟨#[43]⟩ : ByteArray)) ++ t306) ++ (⟨#[42]⟩ : ByteArray)) ++ t307)) else (none))) else (none)) else (none))) else (none)) else (none)) = some r := H
 have A7 := Aside0.mk A70
 clear A70
 by_cases c8 : (((t303 ++ (⟨#[32]⟩ : ByteArray)) ++ t304) ++ (⟨#[44]⟩ : ByteArray)).size + t305.size ≤ 9223372036854775807
 case neg =>
  rw [if_neg c8] at H
  exact absurd H (by simp)
 rw [if_pos c8] at H
 have c8b0 := eq_true c8
 have c8b1 : decide ((((t303 ++ (⟨#[32]⟩ : ByteArray)) ++ t304) ++ (⟨#[44]⟩ : ByteArray)).size + t305.size ≤ 9223372036854775807) = true := decide_eq_true c8
 try have c8b2 : (9223372036854775807 < (((t303 ++ (⟨#[32]⟩ : ByteArray)) ++ t304) ++ (⟨#[44]⟩ : ByteArray)).size + t305.size) = False := eq_false (Nat.not_lt.2 c8)
 have c8b3 : (9223372036854775807 < t303.size + 1 + t304.size + 1 + t305.size) = False := eq_false (Nat.not_lt.2 (by have h_ := c8; simp only [ByteArray.size_append] at h_; exact h_))
 by_cases c9 : ((((t303 ++ (⟨#[32]⟩ : ByteArray)) ++ t304) ++ (⟨#[44]⟩ : ByteArray)) ++ t305).size + 1 ≤ 9223372036854775807
 case neg =>
  rw [if_neg c9] at H
  exact absurd H (by simp)
 rw [if_pos c9] at H
 have c9b0 := eq_true c9
 have c9b1 : decide (((((t303 ++ (⟨#[32]⟩ : ByteArray)) ++ t304) ++ (⟨#[44]⟩ : ByteArray)) ++ t305).size + 1 ≤ 9223372036854775807) = true := decide_eq_true c9
 try have c9b2 : (9223372036854775807 < ((((t303 ++ (⟨#[32]⟩ : ByteArray)) ++ t304) ++ (⟨#[44]⟩ : ByteArray)) ++ t305).size + 1) = False := eq_false (Nat.not_lt.2 c9)
 have c9b3 : (9223372036854775807 < t303.size + 1 + t304.size + 1 + t305.size + 1) = False := eq_false (Nat.not_lt.2 (by have h_ := c9; simp only [ByteArray.size_append] at h_; exact h_))
 replace H := Option.bind_eq_some_iff.mp H
 obtain ⟨t306, A100, H⟩ := H
 replace H : (if (((((t303 ++ (⟨#[32]⟩ : ByteArray)) ++ t304) ++ (⟨#[44]⟩ : ByteArray)) ++ t305) ++ (⟨#[43]⟩ : ByteArray)).size + t306.size ≤ 9223372036854775807 then (if ((((((t303 ++ (⟨#[32]⟩ : ByteArray)) ++ t304) ++ (⟨#[44]⟩ : ByteArray)) ++ t305) ++ (⟨#[43]⟩ : ByteArray)) ++ t306).size + 1 ≤ 9223372036854775807 then ((impl_decimal.f k a0_4).bind fun t307 => (if (((((((t303 ++ (⟨#[32]⟩ : ByteArray)) ++ t304) ++ (⟨#[44]⟩ : ByteArray)) ++ t305) ++ (⟨#[43]⟩ : ByteArray)) ++ t306) ++ (⟨#[42]⟩ : ByteArray)).size + t307.size ≤ 9223372036854775807 then (some ((((((((t303 ++ (⟨#[32]⟩ : ByteArray)) ++ t304) ++ (⟨#[44]⟩ : ByteArray)) ++ t305) ++ (⟨#[43]⟩ : ByteArray)) ++ t306) ++ (⟨#[42]⟩ : ByteArray)) ++ t307)) else (none))) else (none)) else (none)) = some r := H
 have A10 := Aside0.mk A100
 clear A100
 by_cases c11 : (((((t303 ++ (⟨#[32]⟩ : ByteArray)) ++ t304) ++ (⟨#[44]⟩ : ByteArray)) ++ t305) ++ (⟨#[43]⟩ : ByteArray)).size + t306.size ≤ 9223372036854775807
 case neg =>
  rw [if_neg c11] at H
  exact absurd H (by simp)
 rw [if_pos c11] at H
 have c11b0 := eq_true c11
 have c11b1 : decide ((((((t303 ++ (⟨#[32]⟩ : ByteArray)) ++ t304) ++ (⟨#[44]⟩ : ByteArray)) ++ t305) ++ (⟨#[43]⟩ : ByteArray)).size + t306.size ≤ 9223372036854775807) = true := decide_eq_true c11
 try have c11b2 : (9223372036854775807 < (((((t303 ++ (⟨#[32]⟩ : ByteArray)) ++ t304) ++ (⟨#[44]⟩ : ByteArray)) ++ t305) ++ (⟨#[43]⟩ : ByteArray)).size + t306.size) = False := eq_false (Nat.not_lt.2 c11)
 have c11b3 : (9223372036854775807 < t303.size + 1 + t304.size + 1 + t305.size + 1 + t306.size) = False := eq_false (Nat.not_lt.2 (by have h_ := c11; simp only [ByteArray.size_append] at h_; exact h_))
 by_cases c12 : ((((((t303 ++ (⟨#[32]⟩ : ByteArray)) ++ t304) ++ (⟨#[44]⟩ : ByteArray)) ++ t305) ++ (⟨#[43]⟩ : ByteArray)) ++ t306).size + 1 ≤ 9223372036854775807
 case neg =>
  rw [if_neg c12] at H
  exact absurd H (by simp)
 rw [if_pos c12] at H
 have c12b0 := eq_true c12
 have c12b1 : decide (((((((t303 ++ (⟨#[32]⟩ : ByteArray)) ++ t304) ++ (⟨#[44]⟩ : ByteArray)) ++ t305) ++ (⟨#[43]⟩ : ByteArray)) ++ t306).size + 1 ≤ 9223372036854775807) = true := decide_eq_true c12
 try have c12b2 : (9223372036854775807 < ((((((t303 ++ (⟨#[32]⟩ : ByteArray)) ++ t304) ++ (⟨#[44]⟩ : ByteArray)) ++ t305) ++ (⟨#[43]⟩ : ByteArray)) ++ t306).size + 1) = False := eq_false (Nat.not_lt.2 c12)
 have c12b3 : (9223372036854775807 < t303.size + 1 + t304.size + 1 + t305.size + 1 + t306.size + 1) = False := eq_false (Nat.not_lt.2 (by have h_ := c12; simp only [ByteArray.size_append] at h_; exact h_))
 replace H := Option.bind_eq_some_iff.mp H
 obtain ⟨t307, A130, H⟩ := H
 replace H : (if (((((((t303 ++ (⟨#[32]⟩ : ByteArray)) ++ t304) ++ (⟨#[44]⟩ : ByteArray)) ++ t305) ++ (⟨#[43]⟩ : ByteArray)) ++ t306) ++ (⟨#[42]⟩ : ByteArray)).size + t307.size ≤ 9223372036854775807 then (some ((((((((t303 ++ (⟨#[32]⟩ : ByteArray)) ++ t304) ++ (⟨#[44]⟩ : ByteArray)) ++ t305) ++ (⟨#[43]⟩ : ByteArray)) ++ t306) ++ (⟨#[42]⟩ : ByteArray)) ++ t307)) else (none)) = some r := H
 have A13 := Aside0.mk A130
 clear A130
 by_cases c14 : (((((((t303 ++ (⟨#[32]⟩ : ByteArray)) ++ t304) ++ (⟨#[44]⟩ : ByteArray)) ++ t305) ++ (⟨#[43]⟩ : ByteArray)) ++ t306) ++ (⟨#[42]⟩ : ByteArray)).size + t307.size ≤ 9223372036854775807
 case neg =>
  rw [if_neg c14] at H
  exact absurd H (by simp)
 rw [if_pos c14] at H
 have c14b0 := eq_true c14
 have c14b1 : decide ((((((((t303 ++ (⟨#[32]⟩ : ByteArray)) ++ t304) ++ (⟨#[44]⟩ : ByteArray)) ++ t305) ++ (⟨#[43]⟩ : ByteArray)) ++ t306) ++ (⟨#[42]⟩ : ByteArray)).size + t307.size ≤ 9223372036854775807) = true := decide_eq_true c14
 try have c14b2 : (9223372036854775807 < (((((((t303 ++ (⟨#[32]⟩ : ByteArray)) ++ t304) ++ (⟨#[44]⟩ : ByteArray)) ++ t305) ++ (⟨#[43]⟩ : ByteArray)) ++ t306) ++ (⟨#[42]⟩ : ByteArray)).size + t307.size) = False := eq_false (Nat.not_lt.2 c14)
 have c14b3 : (9223372036854775807 < t303.size + 1 + t304.size + 1 + t305.size + 1 + t306.size + 1 + t307.size) = False := eq_false (Nat.not_lt.2 (by have h_ := c14; simp only [ByteArray.size_append] at h_; exact h_))
 obtain rfl := Option.some.inj H
 go_enter Try.func195, Try.ntmps195
 try go_wp2_with (first | ((with_reducible refine gate_dst (N := 1) rfl ?_); refine box_event ?hg (N := 1) ?hd (cs := #[.int .i64 a0_0, .int .i64 a0_1, .int .i64 a0_2, .int .i64 a0_3, .int .i64 a0_4]) (t := 83) ?hr ?_; (case hd => rfl); (case hg => rfl); (case hr => first | (go_simp; done) | (go_simp; rfl)); intro gb302 hg w15 hbox hb; have BK302 := Aside0.mk (hbox); have GW302 := Aside0.mk ((by rw [hg]; exact (below_size (bl_ HB.out)) : w.heap.size ≤ gb302)); have GE302 := Aside0.mk ((by rw [hg]; exact (below_size (bl_ HB.out)) : w.heap.size ≤ gb302)); replace HB := Aside0.mk (below_step (bl_ HB.out) hb); clear hb hbox hg))
 replace BK302 := Aside0.mk (blk_drew BK302.out)
 replace HB := Aside0.mk (below_drew1 HB.out)
 refine start_ (n := 24) (S := fun w' => w'.cell? ⟨gb302, 0, none⟩ = some (.int .i64 a0_0) ∧ w'.cell? ⟨gb302, 1, none⟩ = some (.int .i64 a0_1) ∧ w'.cell? ⟨gb302, 2, none⟩ = some (.int .i64 a0_2) ∧ w'.cell? ⟨gb302, 3, none⟩ = some (.int .i64 a0_3) ∧ w'.cell? ⟨gb302, 4, none⟩ = some (.int .i64 a0_4)) (ds := []) #[f_,f_,f_,f_,f_,f_,f_,f_,f_,f_,f_,f_,f_,f_,f_,f_,f_,f_,f_,f_,f_,f_,f_,f_] (by kernel_rfl) rfl rfl ⟨(blk_cell BK302.out 0).trans rfl, (blk_cell BK302.out 1).trans rfl, (blk_cell BK302.out 2).trans rfl, (blk_cell BK302.out 3).trans rfl, (blk_cell BK302.out 4).trans rfl⟩ (fun hHeld => ?_); refine with_tabW impl_areaText.tab1 impl_areaText.bits1 (fun HT_ HW_ => ?_)
 generalize w15.drew = w16 at BK302 HB hHeld ⊢
 refine pu_ 0 3 #[t_,f_,f_,f_,f_,f_,f_,f_,f_,f_,f_,f_,f_,f_,f_,f_,f_,f_,f_,f_,f_,f_,f_,f_] HT_.out ?_
 refine pu_ 4 7 #[t_,f_,f_,f_,t_,f_,f_,f_,f_,f_,f_,f_,f_,f_,f_,f_,f_,f_,f_,f_,f_,f_,f_,f_] HT_.out ?_
 refine pu_ 9 12 #[t_,f_,f_,f_,t_,f_,f_,f_,f_,t_,f_,f_,f_,f_,f_,f_,f_,f_,f_,f_,f_,f_,f_,f_] HT_.out ?_
 refine pu_ 14 17 #[t_,f_,f_,f_,t_,f_,f_,f_,f_,t_,f_,f_,f_,f_,t_,f_,f_,f_,f_,f_,f_,f_,f_,f_] HT_.out ?_
 refine pu_ 19 22 #[t_,f_,f_,f_,t_,f_,f_,f_,f_,t_,f_,f_,f_,f_,t_,f_,f_,f_,f_,t_,f_,f_,f_,f_] HT_.out ?_
 refine take_ (i := 1) (N := some 4) (v := ?_) (a' := ?_) #[t_,t_,f_,f_,t_,f_,f_,f_,f_,t_,f_,f_,f_,f_,t_,f_,f_,f_,f_,t_,f_,f_,f_,f_] rfl rfl (take_ofW HT_.out HW_.out (by kernel_rfl)) (fun _ _ _ h => h) (Or.inl ⟨by rfl, ?_⟩) hHeld ?_ ?_
 rotate_left
 ·rintro w' ⟨s0, s1, s2, s3, s4⟩
  go_simp
  with_reducible rfl
 rotate_left
 ·simp only [pz_]
  rfl
 refine take_ (i := 5) (N := some 8) (v := ?_) (a' := ?_) #[t_,t_,f_,f_,t_,t_,f_,f_,f_,t_,f_,f_,f_,f_,t_,f_,f_,f_,f_,t_,f_,f_,f_,f_] rfl rfl (take_ofW HT_.out HW_.out (by kernel_rfl)) (fun _ _ _ h => h) (Or.inl ⟨by rfl, ?_⟩) hHeld ?_ ?_
 rotate_left
 ·rintro w' ⟨s0, s1, s2, s3, s4⟩
  go_simp
  with_reducible rfl
 rotate_left
 ·simp only [pz_]
  rfl
 refine take_ (i := 10) (N := some 13) (v := ?_) (a' := ?_) #[t_,t_,f_,f_,t_,t_,f_,f_,f_,t_,t_,f_,f_,f_,t_,f_,f_,f_,f_,t_,f_,f_,f_,f_] rfl rfl (take_ofW HT_.out HW_.out (by kernel_rfl)) (fun _ _ _ h => h) (Or.inl ⟨by rfl, ?_⟩) hHeld ?_ ?_
 rotate_left
 ·rintro w' ⟨s0, s1, s2, s3, s4⟩
  go_simp
  with_reducible rfl
 rotate_left
 ·simp only [pz_]
  rfl
 refine take_ (i := 15) (N := some 18) (v := ?_) (a' := ?_) #[t_,t_,f_,f_,t_,t_,f_,f_,f_,t_,t_,f_,f_,f_,t_,t_,f_,f_,f_,t_,f_,f_,f_,f_] rfl rfl (take_ofW HT_.out HW_.out (by kernel_rfl)) (fun _ _ _ h => h) (Or.inl ⟨by rfl, ?_⟩) hHeld ?_ ?_
 rotate_left
 ·rintro w' ⟨s0, s1, s2, s3, s4⟩
  go_simp
  with_reducible rfl
 rotate_left
 ·simp only [pz_]
  rfl
 refine take_ (i := 20) (N := some 23) (v := ?_) (a' := ?_) #[t_,t_,f_,f_,t_,t_,f_,f_,f_,t_,t_,f_,f_,f_,t_,t_,f_,f_,f_,t_,t_,f_,f_,f_] rfl rfl (take_ofW HT_.out HW_.out (by kernel_rfl)) (fun _ _ _ h => h) (Or.inl ⟨by rfl, ?_⟩) hHeld ?_ ?_
 rotate_left
 ·rintro w' ⟨s0, s1, s2, s3, s4⟩
  go_simp
  with_reducible rfl
 rotate_left
 ·simp only [pz_]
  rfl
 refine one_ (i := 2) (N := some 5) #[t_,t_,t_,f_,t_,t_,f_,f_,f_,t_,t_,f_,f_,f_,t_,t_,f_,f_,f_,t_,t_,f_,f_,f_] rfl rfl (one_of HT_.out (by kernel_rfl)) (by decide) (fun K hK => ?_)
 refine goes_ Try.func163 (by kernel_rfl) rfl #[.int .i64 a0_0] (by rfl) rfl rfl ag_ ?_
 with_reducible refine (impl_kindWord.calls a0_0 t303 _ A2.out).mono ?_
 rintro e w' ⟨rfl, ⟨nd, rfl⟩⟩
 refine ⟨_, rfl, ?_⟩
 refine hK.out _ _ ⟨(blk_cell BK302.out 0).trans rfl, (blk_cell BK302.out 1).trans rfl, (blk_cell BK302.out 2).trans rfl, (blk_cell BK302.out 3).trans rfl, (blk_cell BK302.out 4).trans rfl⟩ (fun hHeld => ?_)
 clear hK K
 refine norm_ (a' := ?_) ?_ ?_
 rotate_left
 ·show Act.put _ (some 5) _ = _
  simp only [pz_]
  rfl
 refine pu_ 3 6 #[t_,t_,t_,t_,t_,t_,f_,f_,f_,t_,t_,f_,f_,f_,t_,t_,f_,f_,f_,t_,t_,f_,f_,f_] HT_.out ?_
 refine one_ (i := 6) (N := some 9) #[t_,t_,t_,t_,t_,t_,t_,f_,f_,t_,t_,f_,f_,f_,t_,t_,f_,f_,f_,t_,t_,f_,f_,f_] rfl rfl (one_of HT_.out (by kernel_rfl)) (by decide) (fun K hK => ?_)
 refine goes_ Try.func219 (by kernel_rfl) rfl #[.int .i64 a0_1] (by rfl) rfl rfl ag_ ?_
 with_reducible refine (impl_decimal.calls k a0_1 t304 _ A4.out).mono ?_
 rintro e w17 ⟨rfl, hb⟩
 refine ⟨_, rfl, ?_⟩
 replace BK302 := Aside0.mk (blk_below (g := gb302) (o := .cells #[.int .i64 a0_0, .int .i64 a0_1, .int .i64 a0_2, .int .i64 a0_3, .int .i64 a0_4] 83 (0, 0)) (r0_ BK302.out) hb)
 replace HB := Aside0.mk (below_step (r1_ HB.out GE302.out) hb)
 (try clear hb)
 (try clear hb2)
 (try clear hk)
 (try clear hi)
 refine hK.out _ _ ⟨(blk_cell BK302.out 0).trans rfl, (blk_cell BK302.out 1).trans rfl, (blk_cell BK302.out 2).trans rfl, (blk_cell BK302.out 3).trans rfl, (blk_cell BK302.out 4).trans rfl⟩ (fun hHeld => ?_)
 clear hK K
 refine norm_ (a' := ?_) ?_ ?_
 rotate_left
 ·show Act.put _ (some 9) _ = _
  simp only [pz_]
  rfl
 refine pu_ 7 10 #[t_,t_,t_,t_,t_,t_,t_,t_,f_,t_,t_,f_,f_,f_,t_,t_,f_,f_,f_,t_,t_,f_,f_,f_] HT_.out ?_
 refine pu_ 8 11 #[t_,t_,t_,t_,t_,t_,t_,t_,t_,t_,t_,f_,f_,f_,t_,t_,f_,f_,f_,t_,t_,f_,f_,f_] HT_.out ?_
 refine one_ (i := 11) (N := some 14) #[t_,t_,t_,t_,t_,t_,t_,t_,t_,t_,t_,t_,f_,f_,t_,t_,f_,f_,f_,t_,t_,f_,f_,f_] rfl rfl (one_of HT_.out (by kernel_rfl)) (by decide) (fun K hK => ?_)
 refine goes_ Try.func219 (by kernel_rfl) rfl #[.int .i64 a0_2] (by rfl) rfl rfl ag_ ?_
 with_reducible refine (impl_decimal.calls k a0_2 t305 _ A7.out).mono ?_
 rintro e w18 ⟨rfl, hb⟩
 refine ⟨_, rfl, ?_⟩
 replace BK302 := Aside0.mk (blk_below (g := gb302) (o := .cells #[.int .i64 a0_0, .int .i64 a0_1, .int .i64 a0_2, .int .i64 a0_3, .int .i64 a0_4] 83 (0, 0)) (r0_ BK302.out) hb)
 replace HB := Aside0.mk (below_step (r1_ HB.out GE302.out) hb)
 (try clear hb)
 (try clear hb2)
 (try clear hk)
 (try clear hi)
 refine hK.out _ _ ⟨(blk_cell BK302.out 0).trans rfl, (blk_cell BK302.out 1).trans rfl, (blk_cell BK302.out 2).trans rfl, (blk_cell BK302.out 3).trans rfl, (blk_cell BK302.out 4).trans rfl⟩ (fun hHeld => ?_)
 clear hK K
 refine norm_ (a' := ?_) ?_ ?_
 rotate_left
 ·show Act.put _ (some 14) _ = _
  simp only [pz_]
  rfl
 refine pu_ 12 15 #[t_,t_,t_,t_,t_,t_,t_,t_,t_,t_,t_,t_,t_,f_,t_,t_,f_,f_,f_,t_,t_,f_,f_,f_] HT_.out ?_
 refine pu_ 13 16 #[t_,t_,t_,t_,t_,t_,t_,t_,t_,t_,t_,t_,t_,t_,t_,t_,f_,f_,f_,t_,t_,f_,f_,f_] HT_.out ?_
 refine one_ (i := 16) (N := some 19) #[t_,t_,t_,t_,t_,t_,t_,t_,t_,t_,t_,t_,t_,t_,t_,t_,t_,f_,f_,t_,t_,f_,f_,f_] rfl rfl (one_of HT_.out (by kernel_rfl)) (by decide) (fun K hK => ?_)
 refine goes_ Try.func219 (by kernel_rfl) rfl #[.int .i64 a0_3] (by rfl) rfl rfl ag_ ?_
 with_reducible refine (impl_decimal.calls k a0_3 t306 _ A10.out).mono ?_
 rintro e w19 ⟨rfl, hb⟩
 refine ⟨_, rfl, ?_⟩
 replace BK302 := Aside0.mk (blk_below (g := gb302) (o := .cells #[.int .i64 a0_0, .int .i64 a0_1, .int .i64 a0_2, .int .i64 a0_3, .int .i64 a0_4] 83 (0, 0)) (r0_ BK302.out) hb)
 replace HB := Aside0.mk (below_step (r1_ HB.out GE302.out) hb)
 (try clear hb)
 (try clear hb2)
 (try clear hk)
 (try clear hi)
 refine hK.out _ _ ⟨(blk_cell BK302.out 0).trans rfl, (blk_cell BK302.out 1).trans rfl, (blk_cell BK302.out 2).trans rfl, (blk_cell BK302.out 3).trans rfl, (blk_cell BK302.out 4).trans rfl⟩ (fun hHeld => ?_)
 clear hK K
 refine norm_ (a' := ?_) ?_ ?_
 rotate_left
 ·show Act.put _ (some 19) _ = _
  simp only [pz_]
  rfl
 refine pu_ 17 20 #[t_,t_,t_,t_,t_,t_,t_,t_,t_,t_,t_,t_,t_,t_,t_,t_,t_,t_,f_,t_,t_,f_,f_,f_] HT_.out ?_
 refine pu_ 18 21 #[t_,t_,t_,t_,t_,t_,t_,t_,t_,t_,t_,t_,t_,t_,t_,t_,t_,t_,t_,t_,t_,f_,f_,f_] HT_.out ?_
 refine one_ (i := 21) (N := some 24) #[t_,t_,t_,t_,t_,t_,t_,t_,t_,t_,t_,t_,t_,t_,t_,t_,t_,t_,t_,t_,t_,t_,f_,f_] rfl rfl (one_of HT_.out (by kernel_rfl)) (by decide) (fun K hK => ?_)
 refine goes_ Try.func219 (by kernel_rfl) rfl #[.int .i64 a0_4] (by rfl) rfl rfl ag_ ?_
 with_reducible refine (impl_decimal.calls k a0_4 t307 _ A13.out).mono ?_
 rintro e w20 ⟨rfl, hb⟩
 refine ⟨_, rfl, ?_⟩
 replace BK302 := Aside0.mk (blk_below (g := gb302) (o := .cells #[.int .i64 a0_0, .int .i64 a0_1, .int .i64 a0_2, .int .i64 a0_3, .int .i64 a0_4] 83 (0, 0)) (r0_ BK302.out) hb)
 replace HB := Aside0.mk (below_step (r1_ HB.out GE302.out) hb)
 (try clear hb)
 (try clear hb2)
 (try clear hk)
 (try clear hi)
 refine hK.out _ _ ⟨(blk_cell BK302.out 0).trans rfl, (blk_cell BK302.out 1).trans rfl, (blk_cell BK302.out 2).trans rfl, (blk_cell BK302.out 3).trans rfl, (blk_cell BK302.out 4).trans rfl⟩ (fun hHeld => ?_)
 clear hK K
 refine norm_ (a' := ?_) ?_ ?_
 rotate_left
 ·show Act.put _ (some 24) _ = _
  simp only [pz_]
  rfl
 refine pu_ 22 25 #[t_,t_,t_,t_,t_,t_,t_,t_,t_,t_,t_,t_,t_,t_,t_,t_,t_,t_,t_,t_,t_,t_,t_,f_] HT_.out ?_
 refine pu_ 23 2 #[t_,t_,t_,t_,t_,t_,t_,t_,t_,t_,t_,t_,t_,t_,t_,t_,t_,t_,t_,t_,t_,t_,t_,t_] HT_.out ?_
 refine done_ (done_of HT_.out (by kernel_rfl)) ?_
 try go_wp2
 go_ret
 exact ⟨by first | rfl | (simp [errW_none, errW_some] <;> rfl) | (simp [*, errW_none, errW_some] <;> rfl), r1_ HB.out GE302.out⟩
def impl_AreaText.f (k : Nat) (a0_0 : Int) (a0_1 : Int) (a0_2 : Int) (a0_3 : Int) (a0_4 : Int) : Option (ByteArray × Int) := (impl_IsArea.f a0_0 a0_1 a0_2 a0_3 a0_4).bind fun t309 => (if t309 = true then ((impl_areaText.f k a0_0 a0_1 a0_2 a0_3 a0_4).bind fun t310 => (some (t310, 0))) else (some ((⟨#[]⟩ : ByteArray), 1)))
set_option maxHeartbeats 8000000 in
set_option maxRecDepth 100000 in
theorem impl_AreaText.calls (k : Nat) (a0_0 : Int) (a0_1 : Int) (a0_2 : Int) (a0_3 : Int) (a0_4 : Int) (r1 : ByteArray) (r2 : Int) (w : World) (h : impl_AreaText.f k a0_0 a0_1 a0_2 a0_3 a0_4 = some (r1, r2)) :
  Calls Try.prog 105 #[.agg #[.int .i64 a0_0, .int .i64 a0_1, .int .i64 a0_2, .int .i64 a0_3, .int .i64 a0_4]] w fun e w' => e = .returned (.tuple #[.string r1, .int .i64 r2]) ∧ Below w.heap.size w w' := by
 have hu83 := Try.underlying83
 have HB := Aside0.mk (Below.refl w.heap.size w)
 have H : ((impl_IsArea.f a0_0 a0_1 a0_2 a0_3 a0_4).bind fun t309 => (if t309 = true then ((impl_areaText.f k a0_0 a0_1 a0_2 a0_3 a0_4).bind fun t310 => (some (t310, 0))) else (some ((⟨#[]⟩ : ByteArray), 1)))) = some (r1, r2) := h
 clear h
 replace H := Option.bind_eq_some_iff.mp H
 obtain ⟨t309, A20, H⟩ := H
 replace H : (if t309 = true then ((impl_areaText.f k a0_0 a0_1 a0_2 a0_3 a0_4).bind fun t310 => (some (t310, 0))) else (some ((⟨#[]⟩ : ByteArray), 1))) = some (r1, r2) := H
 have A2 := Aside0.mk A20
 clear A20
 by_cases c3 : t309 = true
 ·subst c3
  replace H : ((impl_areaText.f k a0_0 a0_1 a0_2 a0_3 a0_4).bind fun t310 => (some (t310, 0))) = some (r1, r2) := by rw [if_pos rfl] at H; exact H
  replace H := Option.bind_eq_some_iff.mp H
  obtain ⟨t310, A40, H⟩ := H
  replace H : (some (t310, 0)) = some (r1, r2) := H
  have A4 := Aside0.mk A40
  clear A40
  simp only [Option.some.injEq, Prod.mk.injEq] at H
  obtain ⟨rfl, rfl⟩ := H
  go_enter Try.func105, Try.ntmps105
  go_wp2_with (first | ((with_reducible refine gate_dst (N := 1) rfl ?_); refine box_event ?hg (N := 1) ?hd (cs := #[.int .i64 a0_0, .int .i64 a0_1, .int .i64 a0_2, .int .i64 a0_3, .int .i64 a0_4]) (t := 83) ?hr ?_; (case hd => rfl); (case hg => rfl); (case hr => first | (go_simp; done) | (go_simp; rfl)); intro gb308 hg w5 hbox hb; have BK308 := Aside0.mk (hbox); have GW308 := Aside0.mk ((by rw [hg]; exact (below_size (bl_ HB.out)) : w.heap.size ≤ gb308)); have GE308 := Aside0.mk ((by rw [hg]; exact (below_size (bl_ HB.out)) : w.heap.size ≤ gb308)); replace HB := Aside0.mk (below_step (bl_ HB.out) hb); clear hb hbox hg; have hcz6_0 : w5.cell? ⟨gb308, 0, none⟩ = some (.int .i64 a0_0) := (blk_cell BK308.out 0).trans rfl; have hcz6_1 : w5.cell? ⟨gb308, 1, none⟩ = some (.int .i64 a0_1) := (blk_cell BK308.out 1).trans rfl; have hcz6_2 : w5.cell? ⟨gb308, 2, none⟩ = some (.int .i64 a0_2) := (blk_cell BK308.out 2).trans rfl; have hcz6_3 : w5.cell? ⟨gb308, 3, none⟩ = some (.int .i64 a0_3) := (blk_cell BK308.out 3).trans rfl; have hcz6_4 : w5.cell? ⟨gb308, 4, none⟩ = some (.int .i64 a0_4) := (blk_cell BK308.out 4).trans rfl; have hfz6_0 := blk_frozen BK308.out 0; have hfz6_1 := blk_frozen BK308.out 1; have hfz6_2 := blk_frozen BK308.out 2; have hfz6_3 := blk_frozen BK308.out 3; have hfz6_4 := blk_frozen BK308.out 4) | ((with_reducible refine gate_callee (f := 108) rfl ?_); refine goesL_ (some 5) rfl rfl Try.func108 (by kernel_rfl) rfl #[.agg #[.int .i64 a0_0, .int .i64 a0_1, .int .i64 a0_2, .int .i64 a0_3, .int .i64 a0_4]] rfl ag_ ?_; (with_reducible refine (impl_IsArea.calls a0_0 a0_1 a0_2 a0_3 a0_4 true _ A2.out).mono ?_); rintro e w7 ⟨rfl, hb⟩; refine ⟨_, rfl, ?_⟩; replace BK308 := Aside0.mk (blk_below (g := gb308) (o := .cells #[.int .i64 a0_0, .int .i64 a0_1, .int .i64 a0_2, .int .i64 a0_3, .int .i64 a0_4] 83 (0, 0)) (r0_ BK308.out) hb); replace HB := Aside0.mk (below_step (r1_ HB.out GE308.out) hb); (try clear hb); (try clear hb2); (try clear hk); (try clear hi); have hcz8_0 : w7.cell? ⟨gb308, 0, none⟩ = some (.int .i64 a0_0) := (blk_cell BK308.out 0).trans rfl; have hcz8_1 : w7.cell? ⟨gb308, 1, none⟩ = some (.int .i64 a0_1) := (blk_cell BK308.out 1).trans rfl; have hcz8_2 : w7.cell? ⟨gb308, 2, none⟩ = some (.int .i64 a0_2) := (blk_cell BK308.out 2).trans rfl; have hcz8_3 : w7.cell? ⟨gb308, 3, none⟩ = some (.int .i64 a0_3) := (blk_cell BK308.out 3).trans rfl; have hcz8_4 : w7.cell? ⟨gb308, 4, none⟩ = some (.int .i64 a0_4) := (blk_cell BK308.out 4).trans rfl; have hfz8_0 := blk_frozen BK308.out 0; have hfz8_1 := blk_frozen BK308.out 1; have hfz8_2 := blk_frozen BK308.out 2; have hfz8_3 := blk_frozen BK308.out 3; have hfz8_4 := blk_frozen BK308.out 4) | ((with_reducible refine gate_callee (f := 195) rfl ?_); refine goesL_ (some 8) rfl rfl Try.func195 (by kernel_rfl) rfl #[.agg #[.int .i64 a0_0, .int .i64 a0_1, .int .i64 a0_2, .int .i64 a0_3, .int .i64 a0_4]] rfl ag_ ?_; (with_reducible refine (impl_areaText.calls k a0_0 a0_1 a0_2 a0_3 a0_4 t310 _ A4.out).mono ?_); rintro e w9 ⟨rfl, hb⟩; refine ⟨_, rfl, ?_⟩; replace BK308 := Aside0.mk (blk_below (g := gb308) (o := .cells #[.int .i64 a0_0, .int .i64 a0_1, .int .i64 a0_2, .int .i64 a0_3, .int .i64 a0_4] 83 (0, 0)) (r0_ BK308.out) hb); replace HB := Aside0.mk (below_step (r1_ HB.out GE308.out) hb); (try clear hb); (try clear hb2); (try clear hk); (try clear hi)))
  go_ret2
  exact ⟨by first | rfl | (simp [errW_none, errW_some] <;> rfl) | (simp [*, errW_none, errW_some] <;> rfl), r1_ HB.out GE308.out⟩
 ·replace c3 := Bool.eq_false_iff.mpr c3
  subst c3
  replace H : (some ((⟨#[]⟩ : ByteArray), 1)) = some (r1, r2) := by rw [if_neg (show ¬ (false = true) by decide)] at H; exact H
  simp only [Option.some.injEq, Prod.mk.injEq] at H
  obtain ⟨rfl, rfl⟩ := H
  go_enter Try.func105, Try.ntmps105
  go_wp2_with (first | ((with_reducible refine gate_dst (N := 1) rfl ?_); refine box_event ?hg (N := 1) ?hd (cs := #[.int .i64 a0_0, .int .i64 a0_1, .int .i64 a0_2, .int .i64 a0_3, .int .i64 a0_4]) (t := 83) ?hr ?_; (case hd => rfl); (case hg => rfl); (case hr => first | (go_simp; done) | (go_simp; rfl)); intro gb308 hg w10 hbox hb; have BK308 := Aside0.mk (hbox); have GW308 := Aside0.mk ((by rw [hg]; exact (below_size (bl_ HB.out)) : w.heap.size ≤ gb308)); have GE308 := Aside0.mk ((by rw [hg]; exact (below_size (bl_ HB.out)) : w.heap.size ≤ gb308)); replace HB := Aside0.mk (below_step (bl_ HB.out) hb); clear hb hbox hg; have hcz11_0 : w10.cell? ⟨gb308, 0, none⟩ = some (.int .i64 a0_0) := (blk_cell BK308.out 0).trans rfl; have hcz11_1 : w10.cell? ⟨gb308, 1, none⟩ = some (.int .i64 a0_1) := (blk_cell BK308.out 1).trans rfl; have hcz11_2 : w10.cell? ⟨gb308, 2, none⟩ = some (.int .i64 a0_2) := (blk_cell BK308.out 2).trans rfl; have hcz11_3 : w10.cell? ⟨gb308, 3, none⟩ = some (.int .i64 a0_3) := (blk_cell BK308.out 3).trans rfl; have hcz11_4 : w10.cell? ⟨gb308, 4, none⟩ = some (.int .i64 a0_4) := (blk_cell BK308.out 4).trans rfl; have hfz11_0 := blk_frozen BK308.out 0; have hfz11_1 := blk_frozen BK308.out 1; have hfz11_2 := blk_frozen BK308.out 2; have hfz11_3 := blk_frozen BK308.out 3; have hfz11_4 := blk_frozen BK308.out 4) | ((with_reducible refine gate_callee (f := 108) rfl ?_); refine goesL_ (some 5) rfl rfl Try.func108 (by kernel_rfl) rfl #[.agg #[.int .i64 a0_0, .int .i64 a0_1, .int .i64 a0_2, .int .i64 a0_3, .int .i64 a0_4]] rfl ag_ ?_; (with_reducible refine (impl_IsArea.calls a0_0 a0_1 a0_2 a0_3 a0_4 false _ A2.out).mono ?_); rintro e w12 ⟨rfl, hb⟩; refine ⟨_, rfl, ?_⟩; replace BK308 := Aside0.mk (blk_below (g := gb308) (o := .cells #[.int .i64 a0_0, .int .i64 a0_1, .int .i64 a0_2, .int .i64 a0_3, .int .i64 a0_4] 83 (0, 0)) (r0_ BK308.out) hb); replace HB := Aside0.mk (below_step (r1_ HB.out GE308.out) hb); (try clear hb); (try clear hb2); (try clear hk); (try clear hi)))
  go_ret2
  exact ⟨by first | rfl | (simp [errW_none, errW_some] <;> rfl) | (simp [*, errW_none, errW_some] <;> rfl), r1_ HB.out GE308.out⟩
def spec_AreaText.f (k : Nat) (a0_0 : Int) (a0_1 : Int) (a0_2 : Int) (a0_3 : Int) (a0_4 : Int) : Option (ByteArray × Int) := (spec_IsArea.f a0_0 a0_1 a0_2 a0_3 a0_4).bind fun t312 => (if t312 = true then ((spec_l15Text.f k a0_0 a0_1 a0_2 a0_3 a0_4).bind fun t313 => (some (t313, 0))) else (some ((⟨#[]⟩ : ByteArray), 1)))
set_option maxHeartbeats 8000000 in
set_option maxRecDepth 100000 in
theorem spec_AreaText.calls (k : Nat) (a0_0 : Int) (a0_1 : Int) (a0_2 : Int) (a0_3 : Int) (a0_4 : Int) (r1 : ByteArray) (r2 : Int) (w : World) (h : spec_AreaText.f k a0_0 a0_1 a0_2 a0_3 a0_4 = some (r1, r2)) :
  Calls Try.prog 106 #[.agg #[.int .i64 a0_0, .int .i64 a0_1, .int .i64 a0_2, .int .i64 a0_3, .int .i64 a0_4]] w fun e w' => e = .returned (.tuple #[.string r1, .int .i64 r2]) ∧ Below w.heap.size w w' := by
 have hu83 := Try.underlying83
 have HB := Aside0.mk (Below.refl w.heap.size w)
 have H : ((spec_IsArea.f a0_0 a0_1 a0_2 a0_3 a0_4).bind fun t312 => (if t312 = true then ((spec_l15Text.f k a0_0 a0_1 a0_2 a0_3 a0_4).bind fun t313 => (some (t313, 0))) else (some ((⟨#[]⟩ : ByteArray), 1)))) = some (r1, r2) := h
 clear h
 replace H := Option.bind_eq_some_iff.mp H
 obtain ⟨t312, A20, H⟩ := H
 replace H : (if t312 = true then ((spec_l15Text.f k a0_0 a0_1 a0_2 a0_3 a0_4).bind fun t313 => (some (t313, 0))) else (some ((⟨#[]⟩ : ByteArray), 1))) = some (r1, r2) := H
 have A2 := Aside0.mk A20
 clear A20
 by_cases c3 : t312 = true
 ·subst c3
  replace H : ((spec_l15Text.f k a0_0 a0_1 a0_2 a0_3 a0_4).bind fun t313 => (some (t313, 0))) = some (r1, r2) := by rw [if_pos rfl] at H; exact H
  replace H := Option.bind_eq_some_iff.mp H
  obtain ⟨t313, A40, H⟩ := H
  replace H : (some (t313, 0)) = some (r1, r2) := H
  have A4 := Aside0.mk A40
  clear A40
  simp only [Option.some.injEq, Prod.mk.injEq] at H
  obtain ⟨rfl, rfl⟩ := H
  go_enter Try.func106, Try.ntmps106
  go_wp2_with (first | ((with_reducible refine gate_dst (N := 1) rfl ?_); refine box_event ?hg (N := 1) ?hd (cs := #[.int .i64 a0_0, .int .i64 a0_1, .int .i64 a0_2, .int .i64 a0_3, .int .i64 a0_4]) (t := 83) ?hr ?_; (case hd => rfl); (case hg => rfl); (case hr => first | (go_simp; done) | (go_simp; rfl)); intro gb311 hg w5 hbox hb; have BK311 := Aside0.mk (hbox); have GW311 := Aside0.mk ((by rw [hg]; exact (below_size (bl_ HB.out)) : w.heap.size ≤ gb311)); have GE311 := Aside0.mk ((by rw [hg]; exact (below_size (bl_ HB.out)) : w.heap.size ≤ gb311)); replace HB := Aside0.mk (below_step (bl_ HB.out) hb); clear hb hbox hg; have hcz6_0 : w5.cell? ⟨gb311, 0, none⟩ = some (.int .i64 a0_0) := (blk_cell BK311.out 0).trans rfl; have hcz6_1 : w5.cell? ⟨gb311, 1, none⟩ = some (.int .i64 a0_1) := (blk_cell BK311.out 1).trans rfl; have hcz6_2 : w5.cell? ⟨gb311, 2, none⟩ = some (.int .i64 a0_2) := (blk_cell BK311.out 2).trans rfl; have hcz6_3 : w5.cell? ⟨gb311, 3, none⟩ = some (.int .i64 a0_3) := (blk_cell BK311.out 3).trans rfl; have hcz6_4 : w5.cell? ⟨gb311, 4, none⟩ = some (.int .i64 a0_4) := (blk_cell BK311.out 4).trans rfl; have hfz6_0 := blk_frozen BK311.out 0; have hfz6_1 := blk_frozen BK311.out 1; have hfz6_2 := blk_frozen BK311.out 2; have hfz6_3 := blk_frozen BK311.out 3; have hfz6_4 := blk_frozen BK311.out 4) | ((with_reducible refine gate_callee (f := 159) rfl ?_); refine goesL_ (some 5) rfl rfl Try.func159 (by kernel_rfl) rfl #[.agg #[.int .i64 a0_0, .int .i64 a0_1, .int .i64 a0_2, .int .i64 a0_3, .int .i64 a0_4]] rfl ag_ ?_; (with_reducible refine (spec_IsArea.calls a0_0 a0_1 a0_2 a0_3 a0_4 true _ A2.out).mono ?_); rintro e w7 ⟨rfl, hb⟩; refine ⟨_, rfl, ?_⟩; replace BK311 := Aside0.mk (blk_below (g := gb311) (o := .cells #[.int .i64 a0_0, .int .i64 a0_1, .int .i64 a0_2, .int .i64 a0_3, .int .i64 a0_4] 83 (0, 0)) (r0_ BK311.out) hb); replace HB := Aside0.mk (below_step (r1_ HB.out GE311.out) hb); (try clear hb); (try clear hb2); (try clear hk); (try clear hi); have hcz8_0 : w7.cell? ⟨gb311, 0, none⟩ = some (.int .i64 a0_0) := (blk_cell BK311.out 0).trans rfl; have hcz8_1 : w7.cell? ⟨gb311, 1, none⟩ = some (.int .i64 a0_1) := (blk_cell BK311.out 1).trans rfl; have hcz8_2 : w7.cell? ⟨gb311, 2, none⟩ = some (.int .i64 a0_2) := (blk_cell BK311.out 2).trans rfl; have hcz8_3 : w7.cell? ⟨gb311, 3, none⟩ = some (.int .i64 a0_3) := (blk_cell BK311.out 3).trans rfl; have hcz8_4 : w7.cell? ⟨gb311, 4, none⟩ = some (.int .i64 a0_4) := (blk_cell BK311.out 4).trans rfl; have hfz8_0 := blk_frozen BK311.out 0; have hfz8_1 := blk_frozen BK311.out 1; have hfz8_2 := blk_frozen BK311.out 2; have hfz8_3 := blk_frozen BK311.out 3; have hfz8_4 := blk_frozen BK311.out 4) | ((with_reducible refine gate_callee (f := 160) rfl ?_); refine goesL_ (some 8) rfl rfl Try.func160 (by kernel_rfl) rfl #[.agg #[.int .i64 a0_0, .int .i64 a0_1, .int .i64 a0_2, .int .i64 a0_3, .int .i64 a0_4]] rfl ag_ ?_; (with_reducible refine (spec_l15Text.calls k a0_0 a0_1 a0_2 a0_3 a0_4 t313 _ A4.out).mono ?_); rintro e w9 ⟨rfl, hb⟩; refine ⟨_, rfl, ?_⟩; replace BK311 := Aside0.mk (blk_below (g := gb311) (o := .cells #[.int .i64 a0_0, .int .i64 a0_1, .int .i64 a0_2, .int .i64 a0_3, .int .i64 a0_4] 83 (0, 0)) (r0_ BK311.out) hb); replace HB := Aside0.mk (below_step (r1_ HB.out GE311.out) hb); (try clear hb); (try clear hb2); (try clear hk); (try clear hi)))
  go_ret2
  exact ⟨by first | rfl | (simp [errW_none, errW_some] <;> rfl) | (simp [*, errW_none, errW_some] <;> rfl), r1_ HB.out GE311.out⟩
 ·replace c3 := Bool.eq_false_iff.mpr c3
  subst c3
  replace H : (some ((⟨#[]⟩ : ByteArray), 1)) = some (r1, r2) := by rw [if_neg (show ¬ (false = true) by decide)] at H; exact H
  simp only [Option.some.injEq, Prod.mk.injEq] at H
  obtain ⟨rfl, rfl⟩ := H
  go_enter Try.func106, Try.ntmps106
  go_wp2_with (first | ((with_reducible refine gate_dst (N := 1) rfl ?_); refine box_event ?hg (N := 1) ?hd (cs := #[.int .i64 a0_0, .int .i64 a0_1, .int .i64 a0_2, .int .i64 a0_3, .int .i64 a0_4]) (t := 83) ?hr ?_; (case hd => rfl); (case hg => rfl); (case hr => first | (go_simp; done) | (go_simp; rfl)); intro gb311 hg w10 hbox hb; have BK311 := Aside0.mk (hbox); have GW311 := Aside0.mk ((by rw [hg]; exact (below_size (bl_ HB.out)) : w.heap.size ≤ gb311)); have GE311 := Aside0.mk ((by rw [hg]; exact (below_size (bl_ HB.out)) : w.heap.size ≤ gb311)); replace HB := Aside0.mk (below_step (bl_ HB.out) hb); clear hb hbox hg; have hcz11_0 : w10.cell? ⟨gb311, 0, none⟩ = some (.int .i64 a0_0) := (blk_cell BK311.out 0).trans rfl; have hcz11_1 : w10.cell? ⟨gb311, 1, none⟩ = some (.int .i64 a0_1) := (blk_cell BK311.out 1).trans rfl; have hcz11_2 : w10.cell? ⟨gb311, 2, none⟩ = some (.int .i64 a0_2) := (blk_cell BK311.out 2).trans rfl; have hcz11_3 : w10.cell? ⟨gb311, 3, none⟩ = some (.int .i64 a0_3) := (blk_cell BK311.out 3).trans rfl; have hcz11_4 : w10.cell? ⟨gb311, 4, none⟩ = some (.int .i64 a0_4) := (blk_cell BK311.out 4).trans rfl; have hfz11_0 := blk_frozen BK311.out 0; have hfz11_1 := blk_frozen BK311.out 1; have hfz11_2 := blk_frozen BK311.out 2; have hfz11_3 := blk_frozen BK311.out 3; have hfz11_4 := blk_frozen BK311.out 4) | ((with_reducible refine gate_callee (f := 159) rfl ?_); refine goesL_ (some 5) rfl rfl Try.func159 (by kernel_rfl) rfl #[.agg #[.int .i64 a0_0, .int .i64 a0_1, .int .i64 a0_2, .int .i64 a0_3, .int .i64 a0_4]] rfl ag_ ?_; (with_reducible refine (spec_IsArea.calls a0_0 a0_1 a0_2 a0_3 a0_4 false _ A2.out).mono ?_); rintro e w12 ⟨rfl, hb⟩; refine ⟨_, rfl, ?_⟩; replace BK311 := Aside0.mk (blk_below (g := gb311) (o := .cells #[.int .i64 a0_0, .int .i64 a0_1, .int .i64 a0_2, .int .i64 a0_3, .int .i64 a0_4] 83 (0, 0)) (r0_ BK311.out) hb); replace HB := Aside0.mk (below_step (r1_ HB.out GE311.out) hb); (try clear hb); (try clear hb2); (try clear hk); (try clear hi)))
  go_ret2
  exact ⟨by first | rfl | (simp [errW_none, errW_some] <;> rfl) | (simp [*, errW_none, errW_some] <;> rfl), r1_ HB.out GE311.out⟩
def spec_l01Damage.f (s0_0 : List Int) (s0_1 : Int) (s0_2 : Int) (a1 : ByteArray) : Option (ByteArray × Int × Int) := (spec_l01Next.f s0_0 s0_1 s0_2 (wrap64 ((a1.size : Int) + 1))).bind fun bt314 => ((spec_l01Next.f s0_0 bt314.2.1 bt314.2.2 8).bind fun bt317 => (if bt317.1 = 0 then (if 0 ≤ bt314.1 then (if bt314.1 ≤ (a1.size : Int) then (some (a1.extract 0 (bt314.1 : Int).toNat, bt317.2.1, bt317.2.2)) else (none)) else (none)) else (if bt317.1 = 1 then (if 0 ≤ bt314.1 then (if bt314.1 ≤ (a1.size : Int) then ((some (([(⟨#[48]⟩ : ByteArray), (⟨#[35]⟩ : ByteArray), (⟨#[46]⟩ : ByteArray), (⟨#[47]⟩ : ByteArray), (⟨#[32]⟩ : ByteArray), (⟨#[97]⟩ : ByteArray), (⟨#[45]⟩ : ByteArray), (⟨#[10]⟩ : ByteArray)] : List ByteArray) : List ByteArray)).bind fun y320 => ((spec_l01Next.f s0_0 bt317.2.1 bt317.2.2 8).bind fun bt323 => (if 0 ≤ bt323.1 then (if bt323.1 < (y320.length : Int) then (if (a1.extract 0 (bt314.1 : Int).toNat).size + (rdOf ByteArray.empty y320 bt323.1).size ≤ 9223372036854775807 then (if ((a1.extract 0 (bt314.1 : Int).toNat) ++ (rdOf ByteArray.empty y320 bt323.1)).size + (a1.extract (bt314.1 : Int).toNat a1.size).size ≤ 9223372036854775807 then (some (((a1.extract 0 (bt314.1 : Int).toNat) ++ (rdOf ByteArray.empty y320 bt323.1)) ++ (a1.extract (bt314.1 : Int).toNat a1.size), bt323.2.1, bt323.2.2)) else (none)) else (none)) else (none)) else (none)))) else (none)) else (none)) else (if bt317.1 = 2 then (if bt314.1 < (a1.size : Int) then (if 0 ≤ bt314.1 then (if bt314.1 ≤ (a1.size : Int) then (if 0 ≤ (wrap64 (bt314.1 + 1)) then (if (wrap64 (bt314.1 + 1)) ≤ (a1.size : Int) then (if (a1.extract 0 (bt314.1 : Int).toNat).size + (a1.extract ((wrap64 (bt314.1 + 1)) : Int).toNat a1.size).size ≤ 9223372036854775807 then (some ((a1.extract 0 (bt314.1 : Int).toNat) ++ (a1.extract ((wrap64 (bt314.1 + 1)) : Int).toNat a1.size), bt317.2.1, bt317.2.2)) else (none)) else (none)) else (none)) else (none)) else (none)) else (some (a1, bt317.2.1, bt317.2.2))) else (some (a1, bt317.2.1, bt317.2.2))))))
def spec_l01Damage.T6 : Bool × List (List Nat × List Nat) := (true, [([], []), ([], []), ([0, 1], [0, 1]), ([], []), ([], []), ([4], [4]), ([3, 5], [3, 5]), ([6], [6]), ([2, 7], [2, 7]), ([], []), ([], []), ([9, 10], [9, 10]), ([8, 11], [8, 11]), ([12, 5, 0, 1, 2, 3, 4, 5, 6, 7, 8, 9, 10, 11, 12], [12])])
def spec_l01Damage.B6 : List Nat := [0, 0, 3, 0, 0, 16, 56, 120, 255, 0, 0, 1536, 4095, 8191]
theorem spec_l01Damage.tab6 : rtab .any (opsOf Try.f197 6) = spec_l01Damage.T6 := by kernel_rfl
theorem spec_l01Damage.bits6 : waitsOk spec_l01Damage.T6.2 spec_l01Damage.B6 = true := by kernel_rfl
def spec_l01Damage.T9 : Bool × List (List Nat × List Nat) := (true, [([], []), ([], []), ([0, 1], [0, 1]), ([], []), ([], []), ([4], [4]), ([3, 5], [3, 5]), ([2, 6], [2, 6]), ([7, 0, 1, 2, 3, 4, 5, 6, 7], [7])])
def spec_l01Damage.B9 : List Nat := [0, 0, 3, 0, 0, 16, 56, 127, 255]
theorem spec_l01Damage.tab9 : rtab .any (opsOf Try.f197 9) = spec_l01Damage.T9 := by kernel_rfl
theorem spec_l01Damage.bits9 : waitsOk spec_l01Damage.T9.2 spec_l01Damage.B9 = true := by kernel_rfl
set_option maxHeartbeats 8000000 in
set_option maxRecDepth 100000 in
theorem spec_l01Damage.calls (g : Nat) (s0_0 : List Int) (s0_1 : Int) (s0_2 : Int) (a1 : ByteArray) (r1 : ByteArray) (r2 : Int) (r3 : Int) (w0 w : World) (hI : IsS215 w0 w g s0_0 s0_1 s0_2) (hB : Below w0.heap.size w0 w) (h : spec_l01Damage.f s0_0 s0_1 s0_2 a1 = some (r1, r2, r3)) :
  Calls Try.prog 197 #[.pointer (some ⟨g, 0, none⟩), .string a1] w fun e w' => e = .returned (.string r1) ∧ IsS215 w0 w' g s0_0 r2 r3 ∧ Below w0.heap.size w0 w' ∧ KeepBut w w' g none := by
 have HI0 := Aside0.mk hI
 have HK := Aside0.mk (KeepBut.refl w g none)
 have HL := Aside0.mk hB.size
 clear hI
 have HW0 := Aside0.mk hB.size
 have HB := Aside0.mk hB
 clear hB
 have H : ((spec_l01Next.f s0_0 s0_1 s0_2 (wrap64 ((a1.size : Int) + 1))).bind fun bt314 => ((spec_l01Next.f s0_0 bt314.2.1 bt314.2.2 8).bind fun bt317 => (if bt317.1 = 0 then (if 0 ≤ bt314.1 then (if bt314.1 ≤ (a1.size : Int) then (some (a1.extract 0 (bt314.1 : Int).toNat, bt317.2.1, bt317.2.2)) else (none)) else (none)) else (if bt317.1 = 1 then (if 0 ≤ bt314.1 then (if bt314.1 ≤ (a1.size : Int) then ((some (([(⟨#[48]⟩ : ByteArray), (⟨#[35]⟩ : ByteArray), (⟨#[46]⟩ : ByteArray), (⟨#[47]⟩ : ByteArray), (⟨#[32]⟩ : ByteArray), (⟨#[97]⟩ : ByteArray), (⟨#[45]⟩ : ByteArray), (⟨#[10]⟩ : ByteArray)] : List ByteArray) : List ByteArray)).bind fun y320 => ((spec_l01Next.f s0_0 bt317.2.1 bt317.2.2 8).bind fun bt323 => (if 0 ≤ bt323.1 then (if bt323.1 < (y320.length : Int) then (if (a1.extract 0 (bt314.1 : Int).toNat).size + (rdOf ByteArray.empty y320 bt323.1).size ≤ 9223372036854775807 then (if ((a1.extract 0 (bt314.1 : Int).toNat) ++ (rdOf ByteArray.empty y320 bt323.1)).size + (a1.extract (bt314.1 : Int).toNat a1.size).size ≤ 9223372036854775807 then (some (((a1.extract 0 (bt314.1 : Int).toNat) ++ (rdOf ByteArray.empty y320 bt323.1)) ++ (a1.extract (bt314.1 : Int).toNat a1.size), bt323.2.1, bt323.2.2)) else (none)) else (none)) else (none)) else (none)))) else (none)) else (none)) else (if bt317.1 = 2 then (if bt314.1 < (a1.size : Int) then (if 0 ≤ bt314.1 then (if bt314.1 ≤ (a1.size : Int) then (if 0 ≤ (wrap64 (bt314.1 + 1)) then (if (wrap64 (bt314.1 + 1)) ≤ (a1.size : Int) then (if (a1.extract 0 (bt314.1 : Int).toNat).size + (a1.extract ((wrap64 (bt314.1 + 1)) : Int).toNat a1.size).size ≤ 9223372036854775807 then (some ((a1.extract 0 (bt314.1 : Int).toNat) ++ (a1.extract ((wrap64 (bt314.1 + 1)) : Int).toNat a1.size), bt317.2.1, bt317.2.2)) else (none)) else (none)) else (none)) else (none)) else (none)) else (some (a1, bt317.2.1, bt317.2.2))) else (some (a1, bt317.2.1, bt317.2.2))))))) = some (r1, r2, r3) := h
 clear h
 replace H := Option.bind_eq_some_iff.mp H
 obtain ⟨⟨t314, t315, t316⟩, A30, H⟩ := H
 replace H : ((spec_l01Next.f s0_0 t315 t316 8).bind fun bt317 => (if bt317.1 = 0 then (if 0 ≤ t314 then (if t314 ≤ (a1.size : Int) then (some (a1.extract 0 (t314 : Int).toNat, bt317.2.1, bt317.2.2)) else (none)) else (none)) else (if bt317.1 = 1 then (if 0 ≤ t314 then (if t314 ≤ (a1.size : Int) then ((some (([(⟨#[48]⟩ : ByteArray), (⟨#[35]⟩ : ByteArray), (⟨#[46]⟩ : ByteArray), (⟨#[47]⟩ : ByteArray), (⟨#[32]⟩ : ByteArray), (⟨#[97]⟩ : ByteArray), (⟨#[45]⟩ : ByteArray), (⟨#[10]⟩ : ByteArray)] : List ByteArray) : List ByteArray)).bind fun y320 => ((spec_l01Next.f s0_0 bt317.2.1 bt317.2.2 8).bind fun bt323 => (if 0 ≤ bt323.1 then (if bt323.1 < (y320.length : Int) then (if (a1.extract 0 (t314 : Int).toNat).size + (rdOf ByteArray.empty y320 bt323.1).size ≤ 9223372036854775807 then (if ((a1.extract 0 (t314 : Int).toNat) ++ (rdOf ByteArray.empty y320 bt323.1)).size + (a1.extract (t314 : Int).toNat a1.size).size ≤ 9223372036854775807 then (some (((a1.extract 0 (t314 : Int).toNat) ++ (rdOf ByteArray.empty y320 bt323.1)) ++ (a1.extract (t314 : Int).toNat a1.size), bt323.2.1, bt323.2.2)) else (none)) else (none)) else (none)) else (none)))) else (none)) else (none)) else (if bt317.1 = 2 then (if t314 < (a1.size : Int) then (if 0 ≤ t314 then (if t314 ≤ (a1.size : Int) then (if 0 ≤ (wrap64 (t314 + 1)) then (if (wrap64 (t314 + 1)) ≤ (a1.size : Int) then (if (a1.extract 0 (t314 : Int).toNat).size + (a1.extract ((wrap64 (t314 + 1)) : Int).toNat a1.size).size ≤ 9223372036854775807 then (some ((a1.extract 0 (t314 : Int).toNat) ++ (a1.extract ((wrap64 (t314 + 1)) : Int).toNat a1.size), bt317.2.1, bt317.2.2)) else (none)) else (none)) else (none)) else (none)) else (none)) else (some (a1, bt317.2.1, bt317.2.2))) else (some (a1, bt317.2.1, bt317.2.2)))))) = some (r1, r2, r3) := H
 have A3 := Aside0.mk A30
 clear A30
 replace H := Option.bind_eq_some_iff.mp H
 obtain ⟨⟨t317, t318, t319⟩, A40, H⟩ := H
 replace H : (if t317 = 0 then (if 0 ≤ t314 then (if t314 ≤ (a1.size : Int) then (some (a1.extract 0 (t314 : Int).toNat, t318, t319)) else (none)) else (none)) else (if t317 = 1 then (if 0 ≤ t314 then (if t314 ≤ (a1.size : Int) then ((some (([(⟨#[48]⟩ : ByteArray), (⟨#[35]⟩ : ByteArray), (⟨#[46]⟩ : ByteArray), (⟨#[47]⟩ : ByteArray), (⟨#[32]⟩ : ByteArray), (⟨#[97]⟩ : ByteArray), (⟨#[45]⟩ : ByteArray), (⟨#[10]⟩ : ByteArray)] : List ByteArray) : List ByteArray)).bind fun y320 => ((spec_l01Next.f s0_0 t318 t319 8).bind fun bt323 => (if 0 ≤ bt323.1 then (if bt323.1 < (y320.length : Int) then (if (a1.extract 0 (t314 : Int).toNat).size + (rdOf ByteArray.empty y320 bt323.1).size ≤ 9223372036854775807 then (if ((a1.extract 0 (t314 : Int).toNat) ++ (rdOf ByteArray.empty y320 bt323.1)).size + (a1.extract (t314 : Int).toNat a1.size).size ≤ 9223372036854775807 then (some (((a1.extract 0 (t314 : Int).toNat) ++ (rdOf ByteArray.empty y320 bt323.1)) ++ (a1.extract (t314 : Int).toNat a1.size), bt323.2.1, bt323.2.2)) else (none)) else (none)) else (none)) else (none)))) else (none)) else (none)) else (if t317 = 2 then (if t314 < (a1.size : Int) then (if 0 ≤ t314 then (if t314 ≤ (a1.size : Int) then (if 0 ≤ (wrap64 (t314 + 1)) then (if (wrap64 (t314 + 1)) ≤ (a1.size : Int) then (if (a1.extract 0 (t314 : Int).toNat).size + (a1.extract ((wrap64 (t314 + 1)) : Int).toNat a1.size).size ≤ 9223372036854775807 then (some ((a1.extract 0 (t314 : Int).toNat) ++ (a1.extract ((wrap64 (t314 + 1)) : Int).toNat a1.size), t318, t319)) else (none)) else (none)) else (none)) else (none)) else (none)) else (some (a1, t318, t319))) else (some (a1, t318, t319))))) = some (r1, r2, r3) := H
 have A4 := Aside0.mk A40
 clear A40
 by_cases c5 : t317 = 0
 ·rw [if_pos c5] at H
  have c5b0 : (t317 == 0) = true := beq_iff_eq.mpr c5
  have c5b1 : (t317 != 0) = false := bne_eq_false_iff_eq.mpr c5
  clear c5
  by_cases c6 : 0 ≤ t314
  case neg =>
   rw [if_neg c6] at H
   exact absurd H (by simp)
  rw [if_pos c6] at H
  have c6b0 := eq_true c6
  have c6b1 : decide (0 ≤ t314) = true := decide_eq_true c6
  clear c6
  by_cases c7 : t314 ≤ (a1.size : Int)
  case neg =>
   rw [if_neg c7] at H
   exact absurd H (by simp)
  rw [if_pos c7] at H
  have c7b0 := eq_true c7
  have c7b1 : decide (t314 ≤ (a1.size : Int)) = true := decide_eq_true c7
  clear c7
  simp only [Option.some.injEq, Prod.mk.injEq] at H
  obtain ⟨rfl, rfl, rfl⟩ := H
  go_enter Try.func197, Try.ntmps197
  go_wp2_with (first | ((with_reducible refine gate_callee (f := 129) rfl ?_); refine goesL_ (some 10) rfl rfl Try.func129 (by kernel_rfl) rfl #[.pointer (some ⟨g, 0, none⟩), .int .i64 (wrap64 ((a1.size : Int) + 1))] rfl ag_ ?_; (with_reducible refine (spec_l01Next.calls g s0_0 s0_1 s0_2 (wrap64 ((a1.size : Int) + 1)) t314 t315 t316 w0 _ ?side1 ?side2 A3.out).mono ?_); (case side1 => exact r2_ HI0.out); (case side2 => exact r4_ HB.out HI0.out); rintro e w8 ⟨rfl, hi, hb, hk⟩; refine ⟨_, rfl, ?_⟩; replace HK := Aside0.mk (KeepBut.trans (r3_ HK.out) hk (.inl rfl)); replace HB := Aside0.mk (hb); replace HI0 := Aside0.mk (hi); (try clear hb); (try clear hb2); (try clear hk); (try clear hi)) | ((with_reducible refine gate_callee (f := 129) rfl ?_); refine goesL_ (some 12) rfl rfl Try.func129 (by kernel_rfl) rfl #[.pointer (some ⟨g, 0, none⟩), .int .i64 8] rfl ag_ ?_; (with_reducible refine (spec_l01Next.calls g s0_0 t315 t316 8 t317 t318 t319 w0 _ ?side1 ?side2 A4.out).mono ?_); (case side1 => exact r2_ HI0.out); (case side2 => exact r4_ HB.out HI0.out); rintro e w9 ⟨rfl, hi, hb, hk⟩; refine ⟨_, rfl, ?_⟩; replace HK := Aside0.mk (KeepBut.trans (r3_ HK.out) hk (.inl rfl)); replace HB := Aside0.mk (hb); replace HI0 := Aside0.mk (hi); (try clear hb); (try clear hb2); (try clear hk); (try clear hi)))
  go_ret
  exact ⟨by first | rfl | (simp [errW_none, errW_some] <;> rfl) | (simp [*, errW_none, errW_some] <;> rfl), r2_ HI0.out, r4_ HB.out HI0.out, r3_ HK.out⟩
 ·rw [if_neg c5] at H
  have c5b0 : (t317 == 0) = false := beq_eq_false_iff_ne.mpr c5
  have c5b1 : (t317 != 0) = true := bne_iff_ne.mpr c5
  by_cases c10 : t317 = 1
  ·rw [if_pos c10] at H
   have c10b0 : (t317 == 1) = true := beq_iff_eq.mpr c10
   have c10b1 : (t317 != 1) = false := bne_eq_false_iff_eq.mpr c10
   clear c10
   by_cases c11 : 0 ≤ t314
   case neg =>
    rw [if_neg c11] at H
    exact absurd H (by simp)
   rw [if_pos c11] at H
   have c11b0 := eq_true c11
   have c11b1 : decide (0 ≤ t314) = true := decide_eq_true c11
   clear c11
   by_cases c12 : t314 ≤ (a1.size : Int)
   case neg =>
    rw [if_neg c12] at H
    exact absurd H (by simp)
   rw [if_pos c12] at H
   have c12b0 := eq_true c12
   have c12b1 : decide (t314 ≤ (a1.size : Int)) = true := decide_eq_true c12
   clear c12
   obtain ⟨y320, hy320⟩ : ∃ y_ : List ByteArray, y_ = (([(⟨#[48]⟩ : ByteArray), (⟨#[35]⟩ : ByteArray), (⟨#[46]⟩ : ByteArray), (⟨#[47]⟩ : ByteArray), (⟨#[32]⟩ : ByteArray), (⟨#[97]⟩ : ByteArray), (⟨#[45]⟩ : ByteArray), (⟨#[10]⟩ : ByteArray)] : List ByteArray)) := ⟨_, rfl⟩
   replace H : ((spec_l01Next.f s0_0 t318 t319 8).bind fun bt323 => (if 0 ≤ bt323.1 then (if bt323.1 < (y320.length : Int) then (if (a1.extract 0 (t314 : Int).toNat).size + (rdOf ByteArray.empty y320 bt323.1).size ≤ 9223372036854775807 then (if ((a1.extract 0 (t314 : Int).toNat) ++ (rdOf ByteArray.empty y320 bt323.1)).size + (a1.extract (t314 : Int).toNat a1.size).size ≤ 9223372036854775807 then (some (((a1.extract 0 (t314 : Int).toNat) ++ (rdOf ByteArray.empty y320 bt323.1)) ++ (a1.extract (t314 : Int).toNat a1.size), bt323.2.1, bt323.2.2)) else (none)) else (none)) else (none)) else (none))) = some (r1, r2, r3) := by first | (rw [hy320]; with_reducible exact H) | (have H2_ := (Option.bind_some _ _).symm.trans H; rw [hy320]; with_reducible exact H2_) | (have H2_ := (Option.bind_some _ _).symm.trans H; with_reducible exact H2_) | with_reducible exact H | (rw [hy320]; exact H) | exact H
   have Ny320 := Aside0.mk hy320
   clear hy320
   replace H := Option.bind_eq_some_iff.mp H
   obtain ⟨⟨t323, t324, t325⟩, A130, H⟩ := H
   replace H : (if 0 ≤ t323 then (if t323 < (y320.length : Int) then (if (a1.extract 0 (t314 : Int).toNat).size + (rdOf ByteArray.empty y320 t323).size ≤ 9223372036854775807 then (if ((a1.extract 0 (t314 : Int).toNat) ++ (rdOf ByteArray.empty y320 t323)).size + (a1.extract (t314 : Int).toNat a1.size).size ≤ 9223372036854775807 then (some (((a1.extract 0 (t314 : Int).toNat) ++ (rdOf ByteArray.empty y320 t323)) ++ (a1.extract (t314 : Int).toNat a1.size), t324, t325)) else (none)) else (none)) else (none)) else (none)) = some (r1, r2, r3) := H
   have A13 := Aside0.mk A130
   clear A130
   by_cases c14 : 0 ≤ t323
   case neg =>
    rw [if_neg c14] at H
    exact absurd H (by simp)
   rw [if_pos c14] at H
   have c14b0 : decide (0 ≤ t323) = true := decide_eq_true c14
   clear c14
   by_cases c15 : t323 < (y320.length : Int)
   case neg =>
    rw [if_neg c15] at H
    exact absurd H (by simp)
   rw [if_pos c15] at H
   have c15b0 : decide (t323 < (y320.length : Int)) = true := decide_eq_true c15
   clear c15
   by_cases c16 : (a1.extract 0 (t314 : Int).toNat).size + (rdOf ByteArray.empty y320 t323).size ≤ 9223372036854775807
   case neg =>
    rw [if_neg c16] at H
    exact absurd H (by simp)
   rw [if_pos c16] at H
   have c16b0 := eq_true c16
   have c16b1 : decide ((a1.extract 0 (t314 : Int).toNat).size + (rdOf ByteArray.empty y320 t323).size ≤ 9223372036854775807) = true := decide_eq_true c16
   try have c16b2 : (9223372036854775807 < (a1.extract 0 (t314 : Int).toNat).size + (rdOf ByteArray.empty y320 t323).size) = False := eq_false (Nat.not_lt.2 c16)
   have hk1_ := Aside0.mk (show (t314 : Int).toNat + (rdOf ByteArray.empty y320 t323).size ≤ 9223372036854775807 from by have h_ := c16; have h2_ := (od_ : t314 ≤ (a1.size : Int)); rw [ByteArray.size_extract] at h_; omega)
   have c17b0 := eq_true (od_ : 0 ≤ t314)
   have c18b0 := eq_true (od_ : t314 ≤ (a1.size : Int))
   by_cases c19 : ((a1.extract 0 (t314 : Int).toNat) ++ (rdOf ByteArray.empty y320 t323)).size + (a1.extract (t314 : Int).toNat a1.size).size ≤ 9223372036854775807
   case neg =>
    rw [if_neg c19] at H
    exact absurd H (by simp)
   rw [if_pos c19] at H
   have c19b0 := eq_true c19
   have c19b1 : decide (((a1.extract 0 (t314 : Int).toNat) ++ (rdOf ByteArray.empty y320 t323)).size + (a1.extract (t314 : Int).toNat a1.size).size ≤ 9223372036854775807) = true := decide_eq_true c19
   try have c19b2 : (9223372036854775807 < ((a1.extract 0 (t314 : Int).toNat) ++ (rdOf ByteArray.empty y320 t323)).size + (a1.extract (t314 : Int).toNat a1.size).size) = False := eq_false (Nat.not_lt.2 c19)
   have hk2_ := Aside0.mk (show (t314 : Int).toNat + (rdOf ByteArray.empty y320 t323).size + (a1.size - (t314 : Int).toNat) ≤ 9223372036854775807 from by have h_ := c19; have h2_ := (od_ : t314 ≤ (a1.size : Int)); simp only [ByteArray.size_append, ByteArray.size_extract] at h_; omega)
   simp only [Option.some.injEq, Prod.mk.injEq] at H
   obtain ⟨rfl, rfl, rfl⟩ := H
   go_enter Try.func197, Try.ntmps197
   try go_wp2_with (first | ((with_reducible refine gate_callee (f := 129) rfl ?_); refine goesL_ (some 10) rfl rfl Try.func129 (by kernel_rfl) rfl #[.pointer (some ⟨g, 0, none⟩), .int .i64 (wrap64 ((a1.size : Int) + 1))] rfl ag_ ?_; (with_reducible refine (spec_l01Next.calls g s0_0 s0_1 s0_2 (wrap64 ((a1.size : Int) + 1)) t314 t315 t316 w0 _ ?side1 ?side2 A3.out).mono ?_); (case side1 => exact r2_ HI0.out); (case side2 => exact r4_ HB.out HI0.out); rintro e w20 ⟨rfl, hi, hb, hk⟩; refine ⟨_, rfl, ?_⟩; replace HK := Aside0.mk (KeepBut.trans (r3_ HK.out) hk (.inl rfl)); replace HB := Aside0.mk (hb); replace HI0 := Aside0.mk (hi); (try clear hb); (try clear hb2); (try clear hk); (try clear hi)) | ((with_reducible refine gate_callee (f := 129) rfl ?_); refine goesL_ (some 12) rfl rfl Try.func129 (by kernel_rfl) rfl #[.pointer (some ⟨g, 0, none⟩), .int .i64 8] rfl ag_ ?_; (with_reducible refine (spec_l01Next.calls g s0_0 t315 t316 8 t317 t318 t319 w0 _ ?side1 ?side2 A4.out).mono ?_); (case side1 => exact r2_ HI0.out); (case side2 => exact r4_ HB.out HI0.out); rintro e w21 ⟨rfl, hi, hb, hk⟩; refine ⟨_, rfl, ?_⟩; replace HK := Aside0.mk (KeepBut.trans (r3_ HK.out) hk (.inl rfl)); replace HB := Aside0.mk (hb); replace HI0 := Aside0.mk (hi); (try clear hb); (try clear hb2); (try clear hk); (try clear hi)))
   have pi326 : (0 ≤ (t323 : Int)) = True := eq_true od_
   have qi326 : (t323 < (y320.length : Int)) = True := eq_true od_
   replace HI0 := Aside0.mk (IsS215.drew HI0.out)
   replace HK := Aside0.mk (keep_drew HK.out)
   replace HB := Aside0.mk (below_drew1 HB.out)
   refine start_ (n := 14) (S := fun w' => True) (ds := []) #[f_,f_,f_,f_,f_,f_,f_,f_,f_,f_,f_,f_,f_,f_] (by kernel_rfl) rfl rfl trivial (fun hHeld => ?_); refine with_tabW spec_l01Damage.tab6 spec_l01Damage.bits6 (fun HT_ HW_ => ?_)
   generalize w21.drew = w22 at HI0 HK HB hHeld ⊢
   refine pu_ 0 20 #[t_,f_,f_,f_,f_,f_,f_,f_,f_,f_,f_,f_,f_,f_] HT_.out ?_
   refine pu_ 1 21 #[t_,t_,f_,f_,f_,f_,f_,f_,f_,f_,f_,f_,f_,f_] HT_.out ?_
   refine pu_ 4 24 #[t_,t_,f_,f_,t_,f_,f_,f_,f_,f_,f_,f_,f_,f_] HT_.out ?_
   refine pu_ 9 29 #[t_,t_,f_,f_,t_,f_,f_,f_,f_,t_,f_,f_,f_,f_] HT_.out ?_
   refine pu_ 10 30 #[t_,t_,f_,f_,t_,f_,f_,f_,f_,t_,t_,f_,f_,f_] HT_.out ?_
   refine inv_at [2, 3, 5, 6, 7, 8, 11, 12, 13] (fun a0_ b a w' => ∃ (v321 : Value) (adz_v321 : Addr) (m6_ : Value), a = putSel a0_ b [(2, 22, .string (a1.extract 0 (t314 : Int).toNat)), (3, 23, v321), (5, 25, .int .i64 t323), (6, 26, m6_), (7, 27, .string (rdOf ByteArray.empty y320 t323)), (8, 28, .string ((a1.extract 0 (t314 : Int).toNat) ++ (rdOf ByteArray.empty y320 t323))), (11, 31, .string (a1.extract (t314 : Int).toNat a1.size)), (12, 32, .string (((a1.extract 0 (t314 : Int).toNat) ++ (rdOf ByteArray.empty y320 t323)) ++ (a1.extract (t314 : Int).toNat a1.size))), (13, 4, .string (((a1.extract 0 (t314 : Int).toNat) ++ (rdOf ByteArray.empty y320 t323)) ++ (a1.extract (t314 : Int).toNat a1.size)))] ∧ (b 5 = false → IsS215 w0 w' g s0_0 t318 t319) ∧ (KeepBut w w' g none) ∧ (Below w0.heap.size w0 w') ∧ (b 3 = true → Kd.R Kd.string 9 w' w.heap.size (fun _ => True) v321 y320) ∧ (b 3 = true → ∃ c_, (v321 : Value) = .slice (some adz_v321) y320.length c_) ∧ (b 5 = true → IsS215 w0 w' g s0_0 t324 t325) ∧ (b 6 = true → (m6_ : Value) = .pointer (some (adz_v321.add (t323).toNat)))) HT_.out HW_.out (by kernel_rfl) (by kernel_rfl) ?_ ?_ ?_
   ·exact ⟨.bool false, ⟨0, 0, none⟩, .bool false, by simp only [putSel, Bool.false_eq_true, if_false], fun _ => HI0.out, HK.out, HB.out, fun h_ => absurd h_ (by decide), fun h_ => absurd h_ (by decide), fun h_ => absurd h_ (by decide), fun h_ => absurd h_ (by decide)⟩
   ·skip
    clear HB HI0 HK
    refine steps_cons ?_ ?_
    ·rintro b a w' ⟨v321, adz_v321, m6_, ha, Q_HI0, Q_HK, Q_HB, Q_HO322, Q_HA_HO322, Q_HI0_e5, Q_X6_⟩ hb_ hon hoff
     refine ⟨_, rfl, fun K hK => ?_⟩
     have e20 : a.tmps[20]? = some (.string a1) := by rw [ha]; exact (putSel_off rfl).trans rfl
     have e21 : a.tmps[21]? = some (.int .i64 t314) := by rw [ha]; exact (putSel_off rfl).trans rfl
     replace ha := Aside0.mk ha
     have HK := Aside0.mk Q_HK
     have HB := Aside0.mk Q_HB
     refine value_ (w1 := w') (v := .string (a1.extract 0 (t314 : Int).toNat)) (by rfl) rfl ?_ ?_
     ·go_simp
      (try simp only [i64_w])
      try rfl
     refine hK.out _ _ ⟨v321, adz_v321, m6_, (by rw [ha.out]; exact putSel_upk 0 hb_ rfl rfl rfl), Q_HI0, Q_HK, Q_HB, Q_HO322, Q_HA_HO322, Q_HI0_e5, Q_X6_⟩
    refine steps_cons ?_ ?_
    ·rintro b a w' ⟨v321, adz_v321, m6_, ha, Q_HI0, Q_HK, Q_HB, Q_HO322, Q_HA_HO322, Q_HI0_e5, Q_X6_⟩ hb_ hon hoff
     refine ⟨_, rfl, fun K hK => ?_⟩
     replace ha := Aside0.mk ha
     have HK := Aside0.mk Q_HK
     have HB := Aside0.mk Q_HB
     refine Kd.R_lit_step Kd.string _ 9 ?hg (N := 23) ?hd (xs := ([(⟨#[48]⟩ : ByteArray), (⟨#[35]⟩ : ByteArray), (⟨#[46]⟩ : ByteArray), (⟨#[47]⟩ : ByteArray), (⟨#[32]⟩ : ByteArray), (⟨#[97]⟩ : ByteArray), (⟨#[45]⟩ : ByteArray), (⟨#[10]⟩ : ByteArray)] : List ByteArray)) (inner := [.string (⟨#[48]⟩ : ByteArray), .string (⟨#[35]⟩ : ByteArray), .string (⟨#[46]⟩ : ByteArray), .string (⟨#[47]⟩ : ByteArray), .string (⟨#[32]⟩ : ByteArray), .string (⟨#[97]⟩ : ByteArray), .string (⟨#[45]⟩ : ByteArray), .string (⟨#[10]⟩ : ByteArray)]) (ok := fun _ => True) (okp := fun _ => True) ?hr ?hp (fun _ hk => hk) trivial (Below.refl _ _) (Nat.le_refl _) (by simp) ?_; (case hd => rfl); (case hg => rfl); (case hr => first | (go_simp; done) | (go_simp; rfl)); (case hp => exact (Reps.one (show Kd.M Kd.string _ _ _ (⟨#[48]⟩ : ByteArray) [.string (⟨#[48]⟩ : ByteArray)] from rfl) (Reps.one (show Kd.M Kd.string _ _ _ (⟨#[35]⟩ : ByteArray) [.string (⟨#[35]⟩ : ByteArray)] from rfl) (Reps.one (show Kd.M Kd.string _ _ _ (⟨#[46]⟩ : ByteArray) [.string (⟨#[46]⟩ : ByteArray)] from rfl) (Reps.one (show Kd.M Kd.string _ _ _ (⟨#[47]⟩ : ByteArray) [.string (⟨#[47]⟩ : ByteArray)] from rfl) (Reps.one (show Kd.M Kd.string _ _ _ (⟨#[32]⟩ : ByteArray) [.string (⟨#[32]⟩ : ByteArray)] from rfl) (Reps.one (show Kd.M Kd.string _ _ _ (⟨#[97]⟩ : ByteArray) [.string (⟨#[97]⟩ : ByteArray)] from rfl) (Reps.one (show Kd.M Kd.string _ _ _ (⟨#[45]⟩ : ByteArray) [.string (⟨#[45]⟩ : ByteArray)] from rfl) (Reps.one (show Kd.M Kd.string _ _ _ (⟨#[10]⟩ : ByteArray) [.string (⟨#[10]⟩ : ByteArray)] from rfl) (Reps.none _ _))))))))))
     intro v321 w23 ho24 hb hg_ hnew_
     clear hg_ hnew_
     (first | rw [← Ny320.out] at ho24 | (simp only [Int.reduceToNat] at ho24; rw [← Ny320.out] at ho24))
     have n0_ := Aside0.mk (Kd.R_lower ho24 (keep_size (w := w) (g := g) (row := none) (r3_ HK.out)))
     have n2_ := Aside0.mk (KeepBut.trans (r3_ HK.out) (KeepBut.of_below hb g none) (.inl rfl))
     have n3_ := Aside0.mk (below_step (bl_ HB.out) hb)
     have z_HI0 := fun (h0_ : b 5 = false) => (show IsS215 w0 w23 g s0_0 t318 t319 from by first | exact (IsS215.below (by repeat (first | (with_reducible first | exact (Q_HI0 h0_) | apply IsS215.alloc | apply IsS215.drewN | apply IsS215.drew | apply IsS215.set_1 | apply IsS215.set_2) | exact (Q_HI0 h0_))) hb))
     have z_HI0_e5 := fun (h0_ : b 5 = true) => (show IsS215 w0 w23 g s0_0 t324 t325 from by first | exact (IsS215.below (by repeat (first | (with_reducible first | exact (Q_HI0_e5 h0_) | apply IsS215.alloc | apply IsS215.drewN | apply IsS215.drew | apply IsS215.set_1 | apply IsS215.set_2) | exact (Q_HI0_e5 h0_))) hb))
     clear HK
     clear HB
     have HO322 := n0_
     have HK := n2_
     have HB := n3_
     clear n0_ n2_ n3_
     clear hb ho24
     obtain ⟨Ao25, co25, eo25⟩ := Kd.R_slice HO322.out
     subst eo25
     obtain ⟨ado25, fo25, _⟩ := Kd.at_string (Kd.R_reads' HO322.out).2.2 0 (by decide) (by rw [Ny320.out]; simp)
     cases fo25
     refine hK.out _ _ ⟨.slice (some ado25) y320.length co25, ado25, m6_, (by rw [ha.out]; exact putSel_upk 1 hb_ rfl rfl rfl), z_HI0, (r3_ HK.out), (bl_ HB.out), fun _ => (rk_ HO322.out), fun _ => ⟨_, rfl⟩, z_HI0_e5, fun h0_ => absurd ((hoff 6 (by kernel_rfl)).symm.trans h0_) (by decide)⟩
    refine steps_cons ?_ ?_
    ·rintro b a w' ⟨v321, adz_v321, m6_, ha, Q_HI0, Q_HK, Q_HB, Q_HO322, Q_HA_HO322, Q_HI0_e5, Q_X6_⟩ hb_ hon hoff
     refine ⟨_, rfl, fun K hK => ?_⟩
     have e24 : a.tmps[24]? = some (.pointer (some ⟨g, 0, none⟩)) := by rw [ha]; exact (putSel_off rfl).trans rfl
     replace ha := Aside0.mk ha
     have HI0 := Aside0.mk (Q_HI0 hb_)
     have HK := Aside0.mk Q_HK
     have HB := Aside0.mk Q_HB
     refine goes_ Try.func129 (by kernel_rfl) rfl #[.pointer (some ⟨g, 0, none⟩), .int .i64 8] (by rfl) rfl rfl (by first | (simp only [List.map_toArray, List.map_cons, List.map_nil, Act.eval, Array.getD_eq_getD_getElem?, Option.getD_some, e24]; done) | (simp only [List.map_toArray, List.map_cons, List.map_nil, Act.eval, Array.getD_eq_getD_getElem?, Option.getD_some, e24]; rfl)) ?_
     with_reducible refine (spec_l01Next.calls g s0_0 t318 t319 8 t323 t324 t325 w0 _ ?side1 ?side2 A13.out).mono ?_
     (case side1 => exact r2_ HI0.out)
     (case side2 => exact r4_ HB.out HI0.out)
     rintro e w23 ⟨rfl, hi, hb, hk⟩
     refine ⟨_, rfl, ?_⟩
     have n0_ := Aside0.mk (KeepBut.trans (r3_ HK.out) hk (.inl rfl))
     have n1_ := Aside0.mk (hb)
     have n2_ := Aside0.mk (hi)
     have z_HO322 := fun (h0_ : b 3 = true) => (show Kd.R Kd.string 9 w23 w.heap.size (fun _ => True) v321 y320 from by first | exact (Kd.R_mono (Kd.R_keep (IsS215.apart (show IsS215 w0 _ g s0_0 t318 t319 from r2_ HI0.out) (rk_ ((Q_HO322 h0_))) (by decide)) hk (fun _ h => h.2)) (fun _ h => h.1)) | exact Kd.R_mono (Kd.R_mono (Kd.R_keep (IsS215.apart (show IsS215 w0 _ g s0_0 t318 t319 from r2_ HI0.out) (rk_ ((Q_HO322 h0_))) (by decide)) hk (fun _ h => h.2)) (fun _ h => h.1)) (fun _ h_ => by first | trivial | exact h_ | exact h_.1))
     clear HK
     clear HB
     clear HI0
     have HK := n0_
     have HB := n1_
     have HI0 := n2_
     clear n0_ n1_ n2_
     (try clear hb)
     (try clear hb2)
     (try clear hk)
     (try clear hi)
     refine hK.out _ _ ⟨v321, adz_v321, m6_, (by rw [ha.out]; exact putSel_upk 2 hb_ rfl rfl rfl), fun h0_ => absurd ((up_self b 5).symm.trans h0_) (by decide), (r3_ HK.out), (r4_ HB.out HI0.out), z_HO322, Q_HA_HO322, fun _ => (r2_ HI0.out), fun h0_ => absurd ((hoff 6 (by kernel_rfl)).symm.trans h0_) (by decide)⟩
    refine steps_cons ?_ ?_
    ·rintro b a w' ⟨v321, adz_v321, m6_, ha, Q_HI0, Q_HK, Q_HB, Q_HO322, Q_HA_HO322, Q_HI0_e5, Q_X6_⟩ hb_ hon hoff
     refine ⟨_, rfl, fun K hK => ?_⟩
     have e23 : a.tmps[23]? = some (v321) := by rw [ha]; exact putSel_on (e := (3, 23, v321)) 1 rfl rfl (hon 3 (by kernel_rfl)) rfl
     have e25 : a.tmps[25]? = some (.int .i64 t323) := by rw [ha]; exact putSel_on (e := (5, 25, .int .i64 t323)) 2 rfl rfl (hon 5 (by kernel_rfl)) rfl
     replace ha := Aside0.mk ha
     have HK := Aside0.mk Q_HK
     have HB := Aside0.mk Q_HB
     have HO322 := Aside0.mk (Q_HO322 (hon 3 (by kernel_rfl)))
     have HA_HO322 := Aside0.mk (Q_HA_HO322 (hon 3 (by kernel_rfl)))
     have HI0 := Aside0.mk (Q_HI0_e5 (hon 5 (by kernel_rfl)))
     obtain ⟨c_, hv_⟩ := HA_HO322.out
     rw [hv_] at e23
     refine value_ (w1 := w') (v := .pointer (some (adz_v321.add (t323).toNat))) (by rfl) rfl ?_ ?_
     ·go_simp
      (try simp only [i64_w])
      try rfl
     refine hK.out _ _ ⟨v321, adz_v321, (.pointer (some (adz_v321.add (t323).toNat))), (by rw [ha.out]; exact putSel_upk 3 hb_ rfl rfl rfl), fun h0_ => absurd ((hon 5 (by kernel_rfl)).symm.trans h0_) (by decide), Q_HK, Q_HB, Q_HO322, Q_HA_HO322, Q_HI0_e5, fun _ => rfl⟩
    refine steps_cons ?_ ?_
    ·rintro b a w' ⟨v321, adz_v321, m6_, ha, Q_HI0, Q_HK, Q_HB, Q_HO322, Q_HA_HO322, Q_HI0_e5, Q_X6_⟩ hb_ hon hoff
     refine ⟨_, rfl, fun K hK => ?_⟩
     have e26 : a.tmps[26]? = some (m6_) := by rw [ha]; exact putSel_on (e := (6, 26, m6_)) 3 rfl rfl (hon 6 (by kernel_rfl)) rfl
     rw [Q_X6_ (hon 6 (by kernel_rfl))] at e26
     replace ha := Aside0.mk ha
     have HK := Aside0.mk Q_HK
     have HB := Aside0.mk Q_HB
     have HO322 := Aside0.mk (Q_HO322 (hon 3 (by kernel_rfl)))
     have HA_HO322 := Aside0.mk (Q_HA_HO322 (hon 3 (by kernel_rfl)))
     have HI0 := Aside0.mk (Q_HI0_e5 (hon 5 (by kernel_rfl)))
     obtain ⟨c_, hv_⟩ := HA_HO322.out
     have hF_ := HO322.out
     rw [hv_] at hF_
     obtain ⟨ad_, ea_, hx_⟩ := Kd.at_string (Kd.R_reads' hF_).2.2 t323 (of_eq_true pi326) (of_eq_true qi326)
     cases ea_
     refine value_ (w1 := w') (v := .string (rdOf ByteArray.empty y320 t323)) (by rfl) rfl ?_ ?_
     ·go_simp
      (try simp only [i64_w])
      try rfl
     refine hK.out _ _ ⟨v321, adz_v321, m6_, (by rw [ha.out]; exact putSel_upk 4 hb_ rfl rfl rfl), fun h0_ => absurd ((hon 5 (by kernel_rfl)).symm.trans h0_) (by decide), Q_HK, Q_HB, Q_HO322, Q_HA_HO322, Q_HI0_e5, Q_X6_⟩
    refine steps_cons ?_ ?_
    ·rintro b a w' ⟨v321, adz_v321, m6_, ha, Q_HI0, Q_HK, Q_HB, Q_HO322, Q_HA_HO322, Q_HI0_e5, Q_X6_⟩ hb_ hon hoff
     refine ⟨_, rfl, fun K hK => ?_⟩
     have e22 : a.tmps[22]? = some (.string (a1.extract 0 (t314 : Int).toNat)) := by rw [ha]; exact putSel_on (e := (2, 22, .string (a1.extract 0 (t314 : Int).toNat))) 0 rfl rfl (hon 2 (by kernel_rfl)) rfl
     have e27 : a.tmps[27]? = some (.string (rdOf ByteArray.empty y320 t323)) := by rw [ha]; exact putSel_on (e := (7, 27, .string (rdOf ByteArray.empty y320 t323))) 4 rfl rfl (hon 7 (by kernel_rfl)) rfl
     replace ha := Aside0.mk ha
     have HK := Aside0.mk Q_HK
     have HB := Aside0.mk Q_HB
     have HO322 := Aside0.mk (Q_HO322 (hon 3 (by kernel_rfl)))
     have HA_HO322 := Aside0.mk (Q_HA_HO322 (hon 3 (by kernel_rfl)))
     have HI0 := Aside0.mk (Q_HI0_e5 (hon 5 (by kernel_rfl)))
     refine value_ (w1 := w') (v := .string ((a1.extract 0 (t314 : Int).toNat) ++ (rdOf ByteArray.empty y320 t323))) (by rfl) rfl ?_ ?_
     ·go_simp
      (try simp only [i64_w])
      try rfl
      try exact hk1_.out
     refine hK.out _ _ ⟨v321, adz_v321, m6_, (by rw [ha.out]; exact putSel_upk 5 hb_ rfl rfl rfl), fun h0_ => absurd ((hon 5 (by kernel_rfl)).symm.trans h0_) (by decide), Q_HK, Q_HB, Q_HO322, Q_HA_HO322, Q_HI0_e5, Q_X6_⟩
    refine steps_cons ?_ ?_
    ·rintro b a w' ⟨v321, adz_v321, m6_, ha, Q_HI0, Q_HK, Q_HB, Q_HO322, Q_HA_HO322, Q_HI0_e5, Q_X6_⟩ hb_ hon hoff
     refine ⟨_, rfl, fun K hK => ?_⟩
     have e29 : a.tmps[29]? = some (.string a1) := by rw [ha]; exact (putSel_off rfl).trans rfl
     have e30 : a.tmps[30]? = some (.int .i64 t314) := by rw [ha]; exact (putSel_off rfl).trans rfl
     replace ha := Aside0.mk ha
     have HK := Aside0.mk Q_HK
     have HB := Aside0.mk Q_HB
     refine value_ (w1 := w') (v := .string (a1.extract (t314 : Int).toNat a1.size)) (by rfl) rfl ?_ ?_
     ·go_simp
      (try simp only [i64_w])
      try rfl
     refine hK.out _ _ ⟨v321, adz_v321, m6_, (by rw [ha.out]; exact putSel_upk 6 hb_ rfl rfl rfl), Q_HI0, Q_HK, Q_HB, Q_HO322, Q_HA_HO322, Q_HI0_e5, Q_X6_⟩
    refine steps_cons ?_ ?_
    ·rintro b a w' ⟨v321, adz_v321, m6_, ha, Q_HI0, Q_HK, Q_HB, Q_HO322, Q_HA_HO322, Q_HI0_e5, Q_X6_⟩ hb_ hon hoff
     refine ⟨_, rfl, fun K hK => ?_⟩
     have e28 : a.tmps[28]? = some (.string ((a1.extract 0 (t314 : Int).toNat) ++ (rdOf ByteArray.empty y320 t323))) := by rw [ha]; exact putSel_on (e := (8, 28, .string ((a1.extract 0 (t314 : Int).toNat) ++ (rdOf ByteArray.empty y320 t323)))) 5 rfl rfl (hon 8 (by kernel_rfl)) rfl
     have e31 : a.tmps[31]? = some (.string (a1.extract (t314 : Int).toNat a1.size)) := by rw [ha]; exact putSel_on (e := (11, 31, .string (a1.extract (t314 : Int).toNat a1.size))) 6 rfl rfl (hon 11 (by kernel_rfl)) rfl
     replace ha := Aside0.mk ha
     have HK := Aside0.mk Q_HK
     have HB := Aside0.mk Q_HB
     have HO322 := Aside0.mk (Q_HO322 (hon 3 (by kernel_rfl)))
     have HA_HO322 := Aside0.mk (Q_HA_HO322 (hon 3 (by kernel_rfl)))
     have HI0 := Aside0.mk (Q_HI0_e5 (hon 5 (by kernel_rfl)))
     refine value_ (w1 := w') (v := .string (((a1.extract 0 (t314 : Int).toNat) ++ (rdOf ByteArray.empty y320 t323)) ++ (a1.extract (t314 : Int).toNat a1.size))) (by rfl) rfl ?_ ?_
     ·go_simp
      (try simp only [i64_w])
      try rfl
      try exact hk2_.out
     refine hK.out _ _ ⟨v321, adz_v321, m6_, (by rw [ha.out]; exact putSel_upk 7 hb_ rfl rfl rfl), fun h0_ => absurd ((hon 5 (by kernel_rfl)).symm.trans h0_) (by decide), Q_HK, Q_HB, Q_HO322, Q_HA_HO322, Q_HI0_e5, Q_X6_⟩
    refine steps_cons ?_ ?_
    ·rintro b a w' ⟨v321, adz_v321, m6_, ha, Q_HI0, Q_HK, Q_HB, Q_HO322, Q_HA_HO322, Q_HI0_e5, Q_X6_⟩ hb_ hon hoff
     refine ⟨_, rfl, fun K hK => ?_⟩
     have e32 : a.tmps[32]? = some (.string (((a1.extract 0 (t314 : Int).toNat) ++ (rdOf ByteArray.empty y320 t323)) ++ (a1.extract (t314 : Int).toNat a1.size))) := by rw [ha]; exact putSel_on (e := (12, 32, .string (((a1.extract 0 (t314 : Int).toNat) ++ (rdOf ByteArray.empty y320 t323)) ++ (a1.extract (t314 : Int).toNat a1.size)))) 7 rfl rfl (hon 12 (by kernel_rfl)) rfl
     replace ha := Aside0.mk ha
     have HK := Aside0.mk Q_HK
     have HB := Aside0.mk Q_HB
     have HO322 := Aside0.mk (Q_HO322 (hon 3 (by kernel_rfl)))
     have HA_HO322 := Aside0.mk (Q_HA_HO322 (hon 3 (by kernel_rfl)))
     have HI0 := Aside0.mk (Q_HI0_e5 (hon 5 (by kernel_rfl)))
     refine value_ (w1 := w') (v := .string (((a1.extract 0 (t314 : Int).toNat) ++ (rdOf ByteArray.empty y320 t323)) ++ (a1.extract (t314 : Int).toNat a1.size))) (by rfl) rfl ?_ ?_
     ·go_simp
      (try simp only [i64_w])
      try rfl
      try exact hk2_.out
     refine hK.out _ _ ⟨v321, adz_v321, m6_, (by rw [ha.out]; exact putSel_upk 8 hb_ rfl rfl rfl), fun h0_ => absurd ((hon 5 (by kernel_rfl)).symm.trans h0_) (by decide), Q_HK, Q_HB, Q_HO322, Q_HA_HO322, Q_HI0_e5, Q_X6_⟩
    exact steps_nil
   rintro b a w27 hall ⟨v321, adz_v321, m6_, ha, Q_HI0, Q_HK, Q_HB, Q_HO322, Q_HA_HO322, Q_HI0_e5, Q_X6_⟩
   clear HB HI0 HK
   have hb2_ := hall 2 (by kernel_rfl)
   have hb3_ := hall 3 (by kernel_rfl)
   have hb5_ := hall 5 (by kernel_rfl)
   have hb6_ := hall 6 (by kernel_rfl)
   have hb7_ := hall 7 (by kernel_rfl)
   have hb8_ := hall 8 (by kernel_rfl)
   have hb11_ := hall 11 (by kernel_rfl)
   have hb12_ := hall 12 (by kernel_rfl)
   have hb13_ := hall 13 (by kernel_rfl)
   subst ha
   obtain rfl := Q_X6_ hb6_
   simp only [putSel, hb2_, hb3_, hb5_, hb6_, hb7_, hb8_, hb11_, hb12_, hb13_, if_true, Act.put, List.setIfInBounds_toArray, List.set_cons_zero, List.set_cons_succ]
   clear Q_HI0
   have HK := Aside0.mk Q_HK
   clear Q_HK
   have HB := Aside0.mk Q_HB
   clear Q_HB
   have HO322 := Aside0.mk (Q_HO322 hb3_)
   clear Q_HO322
   have HA_HO322 := Aside0.mk (Q_HA_HO322 hb3_)
   clear Q_HA_HO322
   have HI0 := Aside0.mk (Q_HI0_e5 hb5_)
   clear Q_HI0_e5
   clear hall hb2_ hb3_ hb5_ hb6_ hb7_ hb8_ hb11_ hb12_ hb13_
   obtain ⟨co28, eo28⟩ := HA_HO322.out
   clear HA_HO322
   subst eo28
   try go_wp2
   go_ret
   exact ⟨by first | rfl | (simp [errW_none, errW_some] <;> rfl) | (simp [*, errW_none, errW_some] <;> rfl), r2_ HI0.out, r4_ HB.out HI0.out, r3_ HK.out⟩
  ·rw [if_neg c10] at H
   have c10b0 : (t317 == 1) = false := beq_eq_false_iff_ne.mpr c10
   have c10b1 : (t317 != 1) = true := bne_iff_ne.mpr c10
   by_cases c29 : t317 = 2
   ·rw [if_pos c29] at H
    have c29b0 : (t317 == 2) = true := beq_iff_eq.mpr c29
    have c29b1 : (t317 != 2) = false := bne_eq_false_iff_eq.mpr c29
    clear c29
    by_cases c30 : t314 < (a1.size : Int)
    ·rw [if_pos c30] at H
     have c30b0 : decide (t314 < (a1.size : Int)) = true := decide_eq_true c30
     clear c30
     by_cases c31 : 0 ≤ t314
     case neg =>
      rw [if_neg c31] at H
      exact absurd H (by simp)
     rw [if_pos c31] at H
     have c31b0 := eq_true c31
     have c31b1 : decide (0 ≤ t314) = true := decide_eq_true c31
     clear c31
     by_cases c32 : t314 ≤ (a1.size : Int)
     case neg =>
      rw [if_neg c32] at H
      exact absurd H (by simp)
     rw [if_pos c32] at H
     have c32b0 := eq_true c32
     have c32b1 : decide (t314 ≤ (a1.size : Int)) = true := decide_eq_true c32
     clear c32
     obtain ⟨ji33, hji33⟩ : ∃ j_ : Int, (wrap64 (t314 + 1)) = j_ := ⟨_, rfl⟩
     replace H : (if 0 ≤ (ji33) then (if (ji33) ≤ (a1.size : Int) then (if (a1.extract 0 (t314 : Int).toNat).size + (a1.extract ((ji33) : Int).toNat a1.size).size ≤ 9223372036854775807 then (some ((a1.extract 0 (t314 : Int).toNat) ++ (a1.extract ((ji33) : Int).toNat a1.size), t318, t319)) else (none)) else (none)) else (none)) = some (r1, r2, r3) := by first | (rw [hji33] at H; exact H) | (simp only [hji33] at H ⊢; exact H)
     (try rw [hji33] at A3)
     (try rw [hji33] at A4)
     have hji33w : (IntKind.i64.wrap (t314 + 1)) = ji33 := (i64_w _).trans hji33
     by_cases c34 : 0 ≤ (ji33)
     case neg =>
      rw [if_neg c34] at H
      exact absurd H (by simp)
     rw [if_pos c34] at H
     have c34b0 := eq_true c34
     have c34b1 : decide (0 ≤ (ji33)) = true := decide_eq_true c34
     clear c34
     by_cases c35 : (ji33) ≤ (a1.size : Int)
     case neg =>
      rw [if_neg c35] at H
      exact absurd H (by simp)
     rw [if_pos c35] at H
     have c35b0 := eq_true c35
     have c35b1 : decide ((ji33) ≤ (a1.size : Int)) = true := decide_eq_true c35
     clear c35
     by_cases c36 : (a1.extract 0 (t314 : Int).toNat).size + (a1.extract ((ji33) : Int).toNat a1.size).size ≤ 9223372036854775807
     case neg =>
      rw [if_neg c36] at H
      exact absurd H (by simp)
     rw [if_pos c36] at H
     have c36b0 := eq_true c36
     have c36b1 : decide ((a1.extract 0 (t314 : Int).toNat).size + (a1.extract ((ji33) : Int).toNat a1.size).size ≤ 9223372036854775807) = true := decide_eq_true c36
     try have c36b2 : (9223372036854775807 < (a1.extract 0 (t314 : Int).toNat).size + (a1.extract ((ji33) : Int).toNat a1.size).size) = False := eq_false (Nat.not_lt.2 c36)
     have c36b3 : (9223372036854775807 < (t314 : Int).toNat + (a1.size - (ji33 : Int).toNat)) = False := eq_false (Nat.not_lt.2 (by have h_ := c36; have h2_ := (od_ : t314 ≤ (a1.size : Int)); simp only [ByteArray.size_extract] at h_; omega))
     simp only [Option.some.injEq, Prod.mk.injEq] at H
     obtain ⟨rfl, rfl, rfl⟩ := H
     go_enter Try.func197, Try.ntmps197
     try go_wp2_with (first | ((with_reducible refine gate_callee (f := 129) rfl ?_); refine goesL_ (some 10) rfl rfl Try.func129 (by kernel_rfl) rfl #[.pointer (some ⟨g, 0, none⟩), .int .i64 (wrap64 ((a1.size : Int) + 1))] rfl ag_ ?_; (with_reducible refine (spec_l01Next.calls g s0_0 s0_1 s0_2 (wrap64 ((a1.size : Int) + 1)) t314 t315 t316 w0 _ ?side1 ?side2 A3.out).mono ?_); (case side1 => exact r2_ HI0.out); (case side2 => exact r4_ HB.out HI0.out); rintro e w37 ⟨rfl, hi, hb, hk⟩; refine ⟨_, rfl, ?_⟩; replace HK := Aside0.mk (KeepBut.trans (r3_ HK.out) hk (.inl rfl)); replace HB := Aside0.mk (hb); replace HI0 := Aside0.mk (hi); (try clear hb); (try clear hb2); (try clear hk); (try clear hi)) | ((with_reducible refine gate_callee (f := 129) rfl ?_); refine goesL_ (some 12) rfl rfl Try.func129 (by kernel_rfl) rfl #[.pointer (some ⟨g, 0, none⟩), .int .i64 8] rfl ag_ ?_; (with_reducible refine (spec_l01Next.calls g s0_0 t315 t316 8 t317 t318 t319 w0 _ ?side1 ?side2 A4.out).mono ?_); (case side1 => exact r2_ HI0.out); (case side2 => exact r4_ HB.out HI0.out); rintro e w38 ⟨rfl, hi, hb, hk⟩; refine ⟨_, rfl, ?_⟩; replace HK := Aside0.mk (KeepBut.trans (r3_ HK.out) hk (.inl rfl)); replace HB := Aside0.mk (hb); replace HI0 := Aside0.mk (hi); (try clear hb); (try clear hb2); (try clear hk); (try clear hi)))
     replace HI0 := Aside0.mk (IsS215.drew HI0.out)
     replace HK := Aside0.mk (keep_drew HK.out)
     replace HB := Aside0.mk (below_drew1 HB.out)
     refine start_ (n := 9) (S := fun w' => True) (ds := []) #[f_,f_,f_,f_,f_,f_,f_,f_,f_] (by kernel_rfl) rfl rfl trivial (fun hHeld => ?_); refine with_tabW spec_l01Damage.tab9 spec_l01Damage.bits9 (fun HT_ HW_ => ?_)
     generalize w38.drew = w39 at HI0 HK HB hHeld ⊢
     refine pu_ 0 39 #[t_,f_,f_,f_,f_,f_,f_,f_,f_] HT_.out ?_
     refine pu_ 1 40 #[t_,t_,f_,f_,f_,f_,f_,f_,f_] HT_.out ?_
     refine pu_ 2 41 #[t_,t_,t_,f_,f_,f_,f_,f_,f_] HT_.out ?_
     refine pu_ 3 42 #[t_,t_,t_,t_,f_,f_,f_,f_,f_] HT_.out ?_
     refine pu_ 4 43 #[t_,t_,t_,t_,t_,f_,f_,f_,f_] HT_.out ?_
     refine pu_ 5 44 #[t_,t_,t_,t_,t_,t_,f_,f_,f_] HT_.out ?_
     refine pu_ 6 45 #[t_,t_,t_,t_,t_,t_,t_,f_,f_] HT_.out ?_
     refine pu_ 7 46 #[t_,t_,t_,t_,t_,t_,t_,t_,f_] HT_.out ?_
     refine pu_ 8 4 #[t_,t_,t_,t_,t_,t_,t_,t_,t_] HT_.out ?_
     refine done_ (done_of HT_.out (by kernel_rfl)) ?_
     try go_wp2
     go_ret
     exact ⟨by first | rfl | (simp [errW_none, errW_some] <;> rfl) | (simp only [← hji33]; first | rfl | (simp [errW_none, errW_some] <;> rfl)) | (simp [*, errW_none, errW_some] <;> rfl), r2_ HI0.out, r4_ HB.out HI0.out, r3_ HK.out⟩
    ·rw [if_neg c30] at H
     have c30b0 : decide (t314 < (a1.size : Int)) = false := decide_eq_false c30
     clear c30
     simp only [Option.some.injEq, Prod.mk.injEq] at H
     obtain ⟨rfl, rfl, rfl⟩ := H
     go_enter Try.func197, Try.ntmps197
     go_wp2_with (first | ((with_reducible refine gate_callee (f := 129) rfl ?_); refine goesL_ (some 10) rfl rfl Try.func129 (by kernel_rfl) rfl #[.pointer (some ⟨g, 0, none⟩), .int .i64 (wrap64 ((a1.size : Int) + 1))] rfl ag_ ?_; (with_reducible refine (spec_l01Next.calls g s0_0 s0_1 s0_2 (wrap64 ((a1.size : Int) + 1)) t314 t315 t316 w0 _ ?side1 ?side2 A3.out).mono ?_); (case side1 => exact r2_ HI0.out); (case side2 => exact r4_ HB.out HI0.out); rintro e w40 ⟨rfl, hi, hb, hk⟩; refine ⟨_, rfl, ?_⟩; replace HK := Aside0.mk (KeepBut.trans (r3_ HK.out) hk (.inl rfl)); replace HB := Aside0.mk (hb); replace HI0 := Aside0.mk (hi); (try clear hb); (try clear hb2); (try clear hk); (try clear hi)) | ((with_reducible refine gate_callee (f := 129) rfl ?_); refine goesL_ (some 12) rfl rfl Try.func129 (by kernel_rfl) rfl #[.pointer (some ⟨g, 0, none⟩), .int .i64 8] rfl ag_ ?_; (with_reducible refine (spec_l01Next.calls g s0_0 t315 t316 8 t317 t318 t319 w0 _ ?side1 ?side2 A4.out).mono ?_); (case side1 => exact r2_ HI0.out); (case side2 => exact r4_ HB.out HI0.out); rintro e w41 ⟨rfl, hi, hb, hk⟩; refine ⟨_, rfl, ?_⟩; replace HK := Aside0.mk (KeepBut.trans (r3_ HK.out) hk (.inl rfl)); replace HB := Aside0.mk (hb); replace HI0 := Aside0.mk (hi); (try clear hb); (try clear hb2); (try clear hk); (try clear hi)))
     go_ret
     exact ⟨by first | rfl | (simp [errW_none, errW_some] <;> rfl) | (simp [*, errW_none, errW_some] <;> rfl), r2_ HI0.out, r4_ HB.out HI0.out, r3_ HK.out⟩
   ·rw [if_neg c29] at H
    have c29b0 : (t317 == 2) = false := beq_eq_false_iff_ne.mpr c29
    have c29b1 : (t317 != 2) = true := bne_iff_ne.mpr c29
    simp only [Option.some.injEq, Prod.mk.injEq] at H
    obtain ⟨rfl, rfl, rfl⟩ := H
    go_enter Try.func197, Try.ntmps197
    go_wp2_with (first | ((with_reducible refine gate_callee (f := 129) rfl ?_); refine goesL_ (some 10) rfl rfl Try.func129 (by kernel_rfl) rfl #[.pointer (some ⟨g, 0, none⟩), .int .i64 (wrap64 ((a1.size : Int) + 1))] rfl ag_ ?_; (with_reducible refine (spec_l01Next.calls g s0_0 s0_1 s0_2 (wrap64 ((a1.size : Int) + 1)) t314 t315 t316 w0 _ ?side1 ?side2 A3.out).mono ?_); (case side1 => exact r2_ HI0.out); (case side2 => exact r4_ HB.out HI0.out); rintro e w42 ⟨rfl, hi, hb, hk⟩; refine ⟨_, rfl, ?_⟩; replace HK := Aside0.mk (KeepBut.trans (r3_ HK.out) hk (.inl rfl)); replace HB := Aside0.mk (hb); replace HI0 := Aside0.mk (hi); (try clear hb); (try clear hb2); (try clear hk); (try clear hi)) | ((with_reducible refine gate_callee (f := 129) rfl ?_); refine goesL_ (some 12) rfl rfl Try.func129 (by kernel_rfl) rfl #[.pointer (some ⟨g, 0, none⟩), .int .i64 8] rfl ag_ ?_; (with_reducible refine (spec_l01Next.calls g s0_0 t315 t316 8 t317 t318 t319 w0 _ ?side1 ?side2 A4.out).mono ?_); (case side1 => exact r2_ HI0.out); (case side2 => exact r4_ HB.out HI0.out); rintro e w43 ⟨rfl, hi, hb, hk⟩; refine ⟨_, rfl, ?_⟩; replace HK := Aside0.mk (KeepBut.trans (r3_ HK.out) hk (.inl rfl)); replace HB := Aside0.mk (hb); replace HI0 := Aside0.mk (hi); (try clear hb); (try clear hb2); (try clear hk); (try clear hi)))
    go_ret
    exact ⟨by first | rfl | (simp [errW_none, errW_some] <;> rfl) | (simp [*, errW_none, errW_some] <;> rfl), r2_ HI0.out, r4_ HB.out HI0.out, r3_ HK.out⟩
end Go.Proofs.Ytedcdhnbceaaeaa.PFnAreaTexts
