/- QFnExactGreatestLoadb of the law FnExactGreatestLoad: taken over, declaration by declaration, as far as the law leans on it (the words and the printed functions are the kit's own print). No condition but what each says. -/
import Derived.Test.YtalcbcelalbhiaaZFnExactGreatestLoadav
import Derived.Laws.Cover1
import Derived.Test.YtalcbcelalbhiaaZFnExactGreatestLoadaw
import Derived.Test.YtalcbcelalbhiaaZFnExactGreatestLoadax
namespace Go.Proofs.Ytalcbcelalbhiaa.PFnExactGreatestLoad
open Go.RowKit Go.Proofs.YtalcbcelalbhiaaW.PrintWords Go.Proofs.YtalcbcelalbhiaaW.PrintLast Go.Proofs.YtalcbcelalbhiaaW.PrintMore
attribute [local go_sem] max2_int min2_int max_two min_two max_three min_three max_four min_four   -- for this text's walks alone
set_option linter.unusedVariables false
set_option linter.unusedSimpArgs false
open Bool renaming true → t_, false → f_
def spec_AreArticles.l0 : Nat → List (S130) → Int → Option (Bool)
 | 0, _, _ => none
 | k + 1, x0, x3 => if x3 < (x0.length : Int) then (if 0 ≤ x3 then ((spec_IsArticle.f k ((rd_T130 x0 x3).f0) ((rd_T130 x0 x3).f1) ((rd_T130 x0 x3).f2) ((rd_T130 x0 x3).f3) ((rd_T130 x0 x3).f4) ((rd_T130 x0 x3).f5) ((rd_T130 x0 x3).f6) ((rd_T130 x0 x3).f7) ((rd_T130 x0 x3).f8)).bind fun t123 => (if t123 = true then (if x3 > 0 then (if 0 ≤ (wrap64 (x3 - 1)) then (if (wrap64 (x3 - 1)) < (x0.length : Int) then (if ((Op.bytesLess (((rd_T130 x0 (wrap64 (x3 - 1))).f0).toList) (((rd_T130 x0 x3).f0).toList)) = true) then (spec_AreArticles.l0 k x0 (wrap64 (x3 + 1))) else (some false)) else (none)) else (none)) else (spec_AreArticles.l0 k x0 (wrap64 (x3 + 1)))) else (some false))) else (none)) else (some (decide ((x0.length : Int) ≤ 12)))
def spec_AreArticles.f (k : Nat) (l0 : List (S130)) : Option (Bool) := spec_AreArticles.l0 k l0 0
def spec_AreArticles.T4 : Bool × List (List Nat × List Nat) := (true, [([], []), ([], []), ([0, 1], [0, 1]), ([2], [2]), ([3], [3]), ([4], [4]), ([5, 4], [5]), ([6], [6]), ([7, 6], [6, 7]), ([8, 6, 6], [6, 8]), ([9], [9]), ([9], [9]), ([11, 9], [9, 11]), ([10, 12, 9], [9, 10, 12]), ([13, 9], [9, 13]), ([14, 9], [9, 14]), ([9], [9]), ([9], [9]), ([16, 17, 9], [9, 16, 17]), ([18, 9], [9, 18]), ([19, 9], [9, 19]), ([15, 20, 9], [9, 15, 20]), ([9, 21, 6], [6, 9, 21]), ([6, 22], [6, 22])])
def spec_AreArticles.B4 : List Nat := [0, 0, 3, 7, 15, 31, 63, 127, 255, 511, 1023, 1023, 3071, 8191, 16383, 32767, 1023, 1023, 197631, 459775, 984063, 2097151, 4194303, 8388607]
theorem spec_AreArticles.tab4 : rtab .any (opsOf Try.f162 4) = spec_AreArticles.T4 := by kernel_rfl
theorem spec_AreArticles.bits4 : waitsOk spec_AreArticles.T4.2 spec_AreArticles.B4 = true := by kernel_rfl
set_option maxHeartbeats 8000000 in
set_option maxRecDepth 100000 in
theorem spec_AreArticles.calls (k : Nat) (A0 : Option Addr) (c0 : Nat) (l0 : List (S130)) (r : Bool) (w : World) (hr0 : Kd.C k130 w A0 l0.length l0) (hc0 : l0.length ≤ c0) (h : spec_AreArticles.f k l0 = some r) :
  Calls Try.prog 162 #[.slice A0 l0.length c0] w fun e w' => e = .returned (.bool r) ∧ Below w.heap.size w w' := by
 have hu130 := Try.underlying130
 have HR0 := Aside0.mk hr0
 have HC0 := Aside0.mk hc0
 clear hr0 hc0
 have HB := Aside0.mk (Below.refl w.heap.size w)
 have H : (spec_AreArticles.l0 k l0 0) = some r := h
 clear h
 have H' := Aside0.mk H
 clear H
 go_enter Try.func162, Try.ntmps162
 go_wp2
 go_loopg [3] k (fun kq v3 w' => ∃ (x3_1 : Int), v3 = .int .i64 x3_1 ∧ Aside0 (spec_AreArticles.l0 kq l0 x3_1 = some r) ∧ Aside0 (kq ≤ k) ∧ Aside0 (Below w.heap.size w w'))
 case atStart => exact ⟨(0), (by first | rfl | (simp; done) | (simp [*]; done)), H', ⟨Nat.le_refl _⟩, ⟨bl_ HB.out⟩⟩
 case round =>
  clear H'
  try clear c1
  obtain ⟨x3_1, rfl, HA, HK1, HB⟩ := hrel
  cases gk with
  | zero => exact absurd HA.out (by simp [spec_AreArticles.l0])
  | succ k1 =>
   have H := HA.out
   clear HA
   simp only [spec_AreArticles.l0] at H
   by_cases c2 : x3_1 < (l0.length : Int)
   ·rw [if_pos c2] at H
    have c2b0 : decide (x3_1 < (l0.length : Int)) = true := decide_eq_true c2
    clear c2
    by_cases c3 : 0 ≤ x3_1
    case neg =>
     rw [if_neg c3] at H
     exact absurd H (by simp)
    rw [if_pos c3] at H
    have c3b0 : decide (0 ≤ x3_1) = true := decide_eq_true c3
    clear c3
    replace H := Option.bind_eq_some_iff.mp H
    obtain ⟨t123, A40, H⟩ := H
    replace H : (if t123 = true then (if x3_1 > 0 then (if 0 ≤ (wrap64 (x3_1 - 1)) then (if (wrap64 (x3_1 - 1)) < (l0.length : Int) then (if ((Op.bytesLess (((rd_T130 l0 (wrap64 (x3_1 - 1))).f0).toList) (((rd_T130 l0 x3_1).f0).toList)) = true) then (spec_AreArticles.l0 k1 l0 (wrap64 (x3_1 + 1))) else (some false)) else (none)) else (none)) else (spec_AreArticles.l0 k1 l0 (wrap64 (x3_1 + 1)))) else (some false)) = some r := H
    have A4 := Aside0.mk A40
    clear A40
    by_cases c5 : t123 = true
    ·subst c5
     replace H : (if x3_1 > 0 then (if 0 ≤ (wrap64 (x3_1 - 1)) then (if (wrap64 (x3_1 - 1)) < (l0.length : Int) then (if ((Op.bytesLess (((rd_T130 l0 (wrap64 (x3_1 - 1))).f0).toList) (((rd_T130 l0 x3_1).f0).toList)) = true) then (spec_AreArticles.l0 k1 l0 (wrap64 (x3_1 + 1))) else (some false)) else (none)) else (none)) else (spec_AreArticles.l0 k1 l0 (wrap64 (x3_1 + 1)))) = some r := by rw [if_pos rfl] at H; exact H
     by_cases c6 : x3_1 > 0
     ·rw [if_pos c6] at H
      have c6b0 : decide (0 < x3_1) = true := decide_eq_true c6
      clear c6
      obtain ⟨ji7, hji7⟩ : ∃ j_ : Int, (wrap64 (x3_1 - 1)) = j_ := ⟨_, rfl⟩
      replace H : (if 0 ≤ (ji7) then (if (ji7) < (l0.length : Int) then (if ((Op.bytesLess (((rd_T130 l0 (ji7)).f0).toList) (((rd_T130 l0 x3_1).f0).toList)) = true) then (spec_AreArticles.l0 k1 l0 (wrap64 (x3_1 + 1))) else (some false)) else (none)) else (none)) = some r := by first | (rw [hji7] at H; exact H) | (simp only [hji7] at H ⊢; exact H)
      (try rw [hji7] at A4)
      have hji7w : (IntKind.i64.wrap (x3_1 - 1)) = ji7 := (i64_w _).trans hji7
      by_cases c8 : 0 ≤ (ji7)
      case neg =>
       rw [if_neg c8] at H
       exact absurd H (by simp)
      rw [if_pos c8] at H
      have c8b0 : decide (0 ≤ (ji7)) = true := decide_eq_true c8
      clear c8
      by_cases c9 : (ji7) < (l0.length : Int)
      case neg =>
       rw [if_neg c9] at H
       exact absurd H (by simp)
      rw [if_pos c9] at H
      have c9b0 : decide ((ji7) < (l0.length : Int)) = true := decide_eq_true c9
      clear c9
      by_cases c10 : ((Op.bytesLess (((rd_T130 l0 (ji7)).f0).toList) (((rd_T130 l0 x3_1).f0).toList)) = true)
      ·rw [if_pos c10] at H
       have c10b0 : (Op.bytesLess (((rd_T130 l0 (ji7)).f0).toList) (((rd_T130 l0 x3_1).f0).toList)) = true := c10
       clear c10
       have H' := Aside0.mk H
       clear H
       try go_wp2
       replace HB := Aside0.mk (below_drew1 HB.out)
       have p122 : 0 ≤ (x3_1 : Int) := od_
       have q122 : x3_1 < (l0.length : Int) := od_
       obtain ⟨ad122, e122, hx122_0, hx122_1, hx122_2, hx122_3, hx122_4, hx122_5, hx122_6, hx122_7, hx122_8⟩ := at_T130 HR0.out x3_1 p122 q122
       have hw122_8 := hx122_8
       have hw122_7 := hx122_7
       have hw122_6 := hx122_6
       have hw122_5 := hx122_5
       have hw122_4 := hx122_4
       have hw122_3 := hx122_3
       have hw122_2 := hx122_2
       have hw122_1 := hx122_1
       have hw122_0 := hx122_0
       cases e122
       replace hx122_0 := bc_ HB.out hx122_0
       replace hx122_1 := bc_ HB.out hx122_1
       replace hx122_2 := bc_ HB.out hx122_2
       replace hx122_3 := bc_ HB.out hx122_3
       replace hx122_4 := bc_ HB.out hx122_4
       replace hx122_5 := bc_ HB.out hx122_5
       replace hx122_6 := bc_ HB.out hx122_6
       replace hx122_7 := bc_ HB.out hx122_7
       replace hx122_8 := bc_ HB.out hx122_8
       replace p122 := eq_true p122
       replace q122 := eq_true q122
       have p124 : 0 ≤ ((ji7) : Int) := od_
       have q124 : (ji7) < (l0.length : Int) := od_
       obtain ⟨ad124, e124, hx124_0, hx124_1, hx124_2, hx124_3, hx124_4, hx124_5, hx124_6, hx124_7, hx124_8⟩ := at_T130 HR0.out (ji7) p124 q124
       have hw124_8 := hx124_8
       have hw124_7 := hx124_7
       have hw124_6 := hx124_6
       have hw124_5 := hx124_5
       have hw124_4 := hx124_4
       have hw124_3 := hx124_3
       have hw124_2 := hx124_2
       have hw124_1 := hx124_1
       have hw124_0 := hx124_0
       obtain rfl : ad122 = ad124 := (by injection e124)
       replace hx124_0 := bc_ HB.out hx124_0
       replace hx124_1 := bc_ HB.out hx124_1
       replace hx124_2 := bc_ HB.out hx124_2
       replace hx124_3 := bc_ HB.out hx124_3
       replace hx124_4 := bc_ HB.out hx124_4
       replace hx124_5 := bc_ HB.out hx124_5
       replace hx124_6 := bc_ HB.out hx124_6
       replace hx124_7 := bc_ HB.out hx124_7
       replace hx124_8 := bc_ HB.out hx124_8
       replace p124 := eq_true p124
       replace q124 := eq_true q124
       have p125 : 0 ≤ (x3_1 : Int) := od_
       have q125 : x3_1 < (l0.length : Int) := od_
       obtain ⟨ad125, e125, hx125_0, hx125_1, hx125_2, hx125_3, hx125_4, hx125_5, hx125_6, hx125_7, hx125_8⟩ := at_T130 HR0.out x3_1 p125 q125
       have hw125_8 := hx125_8
       have hw125_7 := hx125_7
       have hw125_6 := hx125_6
       have hw125_5 := hx125_5
       have hw125_4 := hx125_4
       have hw125_3 := hx125_3
       have hw125_2 := hx125_2
       have hw125_1 := hx125_1
       have hw125_0 := hx125_0
       obtain rfl : ad122 = ad125 := (by injection e125)
       replace hx125_0 := bc_ HB.out hx125_0
       replace hx125_1 := bc_ HB.out hx125_1
       replace hx125_2 := bc_ HB.out hx125_2
       replace hx125_3 := bc_ HB.out hx125_3
       replace hx125_4 := bc_ HB.out hx125_4
       replace hx125_5 := bc_ HB.out hx125_5
       replace hx125_6 := bc_ HB.out hx125_6
       replace hx125_7 := bc_ HB.out hx125_7
       replace hx125_8 := bc_ HB.out hx125_8
       replace p125 := eq_true p125
       replace q125 := eq_true q125
       refine start_ (n := 24) (S := fun w' => w'.cell? (ad122.add ((x3_1).toNat * 9)) = some (.string ((rd_T130 l0 x3_1).f0)) ∧ w'.cell? ⟨(ad122.add ((x3_1).toNat * 9)).block, (ad122.add ((x3_1).toNat * 9)).off + 1, none⟩ = some (.int .i64 ((rd_T130 l0 x3_1).f1)) ∧ w'.cell? ⟨(ad122.add ((x3_1).toNat * 9)).block, (ad122.add ((x3_1).toNat * 9)).off + 2, none⟩ = some (.int .i64 ((rd_T130 l0 x3_1).f2)) ∧ w'.cell? ⟨(ad122.add ((x3_1).toNat * 9)).block, (ad122.add ((x3_1).toNat * 9)).off + 3, none⟩ = some (.int .i64 ((rd_T130 l0 x3_1).f3)) ∧ w'.cell? ⟨(ad122.add ((x3_1).toNat * 9)).block, (ad122.add ((x3_1).toNat * 9)).off + 4, none⟩ = some (.int .i64 ((rd_T130 l0 x3_1).f4)) ∧ w'.cell? ⟨(ad122.add ((x3_1).toNat * 9)).block, (ad122.add ((x3_1).toNat * 9)).off + 5, none⟩ = some (.int .i64 ((rd_T130 l0 x3_1).f5)) ∧ w'.cell? ⟨(ad122.add ((x3_1).toNat * 9)).block, (ad122.add ((x3_1).toNat * 9)).off + 6, none⟩ = some (.int .i64 ((rd_T130 l0 x3_1).f6)) ∧ w'.cell? ⟨(ad122.add ((x3_1).toNat * 9)).block, (ad122.add ((x3_1).toNat * 9)).off + 7, none⟩ = some (.int .i64 ((rd_T130 l0 x3_1).f7)) ∧ w'.cell? ⟨(ad122.add ((x3_1).toNat * 9)).block, (ad122.add ((x3_1).toNat * 9)).off + 8, none⟩ = some (.int .i64 ((rd_T130 l0 x3_1).f8)) ∧ w'.cell? (ad122.add (((ji7)).toNat * 9)) = some (.string ((rd_T130 l0 (ji7)).f0)) ∧ w'.cell? ⟨(ad122.add (((ji7)).toNat * 9)).block, (ad122.add (((ji7)).toNat * 9)).off + 1, none⟩ = some (.int .i64 ((rd_T130 l0 (ji7)).f1)) ∧ w'.cell? ⟨(ad122.add (((ji7)).toNat * 9)).block, (ad122.add (((ji7)).toNat * 9)).off + 2, none⟩ = some (.int .i64 ((rd_T130 l0 (ji7)).f2)) ∧ w'.cell? ⟨(ad122.add (((ji7)).toNat * 9)).block, (ad122.add (((ji7)).toNat * 9)).off + 3, none⟩ = some (.int .i64 ((rd_T130 l0 (ji7)).f3)) ∧ w'.cell? ⟨(ad122.add (((ji7)).toNat * 9)).block, (ad122.add (((ji7)).toNat * 9)).off + 4, none⟩ = some (.int .i64 ((rd_T130 l0 (ji7)).f4)) ∧ w'.cell? ⟨(ad122.add (((ji7)).toNat * 9)).block, (ad122.add (((ji7)).toNat * 9)).off + 5, none⟩ = some (.int .i64 ((rd_T130 l0 (ji7)).f5)) ∧ w'.cell? ⟨(ad122.add (((ji7)).toNat * 9)).block, (ad122.add (((ji7)).toNat * 9)).off + 6, none⟩ = some (.int .i64 ((rd_T130 l0 (ji7)).f6)) ∧ w'.cell? ⟨(ad122.add (((ji7)).toNat * 9)).block, (ad122.add (((ji7)).toNat * 9)).off + 7, none⟩ = some (.int .i64 ((rd_T130 l0 (ji7)).f7)) ∧ w'.cell? ⟨(ad122.add (((ji7)).toNat * 9)).block, (ad122.add (((ji7)).toNat * 9)).off + 8, none⟩ = some (.int .i64 ((rd_T130 l0 (ji7)).f8)) ∧ w'.cell? (ad122.add ((x3_1).toNat * 9)) = some (.string ((rd_T130 l0 x3_1).f0)) ∧ w'.cell? ⟨(ad122.add ((x3_1).toNat * 9)).block, (ad122.add ((x3_1).toNat * 9)).off + 1, none⟩ = some (.int .i64 ((rd_T130 l0 x3_1).f1)) ∧ w'.cell? ⟨(ad122.add ((x3_1).toNat * 9)).block, (ad122.add ((x3_1).toNat * 9)).off + 2, none⟩ = some (.int .i64 ((rd_T130 l0 x3_1).f2)) ∧ w'.cell? ⟨(ad122.add ((x3_1).toNat * 9)).block, (ad122.add ((x3_1).toNat * 9)).off + 3, none⟩ = some (.int .i64 ((rd_T130 l0 x3_1).f3)) ∧ w'.cell? ⟨(ad122.add ((x3_1).toNat * 9)).block, (ad122.add ((x3_1).toNat * 9)).off + 4, none⟩ = some (.int .i64 ((rd_T130 l0 x3_1).f4)) ∧ w'.cell? ⟨(ad122.add ((x3_1).toNat * 9)).block, (ad122.add ((x3_1).toNat * 9)).off + 5, none⟩ = some (.int .i64 ((rd_T130 l0 x3_1).f5)) ∧ w'.cell? ⟨(ad122.add ((x3_1).toNat * 9)).block, (ad122.add ((x3_1).toNat * 9)).off + 6, none⟩ = some (.int .i64 ((rd_T130 l0 x3_1).f6)) ∧ w'.cell? ⟨(ad122.add ((x3_1).toNat * 9)).block, (ad122.add ((x3_1).toNat * 9)).off + 7, none⟩ = some (.int .i64 ((rd_T130 l0 x3_1).f7)) ∧ w'.cell? ⟨(ad122.add ((x3_1).toNat * 9)).block, (ad122.add ((x3_1).toNat * 9)).off + 8, none⟩ = some (.int .i64 ((rd_T130 l0 x3_1).f8))) (ds := []) #[f_,f_,f_,f_,f_,f_,f_,f_,f_,f_,f_,f_,f_,f_,f_,f_,f_,f_,f_,f_,f_,f_,f_,f_] (by kernel_rfl) rfl rfl ⟨(bc_ HB.out hw122_0 :), (bc_ HB.out hw122_1 :), (bc_ HB.out hw122_2 :), (bc_ HB.out hw122_3 :), (bc_ HB.out hw122_4 :), (bc_ HB.out hw122_5 :), (bc_ HB.out hw122_6 :), (bc_ HB.out hw122_7 :), (bc_ HB.out hw122_8 :), (bc_ HB.out hw124_0 :), (bc_ HB.out hw124_1 :), (bc_ HB.out hw124_2 :), (bc_ HB.out hw124_3 :), (bc_ HB.out hw124_4 :), (bc_ HB.out hw124_5 :), (bc_ HB.out hw124_6 :), (bc_ HB.out hw124_7 :), (bc_ HB.out hw124_8 :), (bc_ HB.out hw125_0 :), (bc_ HB.out hw125_1 :), (bc_ HB.out hw125_2 :), (bc_ HB.out hw125_3 :), (bc_ HB.out hw125_4 :), (bc_ HB.out hw125_5 :), (bc_ HB.out hw125_6 :), (bc_ HB.out hw125_7 :), (bc_ HB.out hw125_8 :)⟩ (fun hHeld => ?_); refine with_tabW spec_AreArticles.tab4 spec_AreArticles.bits4 (fun HT_ HW_ => ?_)
       generalize wr.drew = w11 at HB hx122_0 hx122_1 hx122_2 hx122_3 hx122_4 hx122_5 hx122_6 hx122_7 hx122_8 hx124_0 hx124_1 hx124_2 hx124_3 hx124_4 hx124_5 hx124_6 hx124_7 hx124_8 hx125_0 hx125_1 hx125_2 hx125_3 hx125_4 hx125_5 hx125_6 hx125_7 hx125_8 hHeld ⊢
       refine pu_ 0 10 #[t_,f_,f_,f_,f_,f_,f_,f_,f_,f_,f_,f_,f_,f_,f_,f_,f_,f_,f_,f_,f_,f_,f_,f_] HT_.out ?_
       refine pu_ 1 11 #[t_,t_,f_,f_,f_,f_,f_,f_,f_,f_,f_,f_,f_,f_,f_,f_,f_,f_,f_,f_,f_,f_,f_,f_] HT_.out ?_
       refine pu_ 2 12 #[t_,t_,t_,f_,f_,f_,f_,f_,f_,f_,f_,f_,f_,f_,f_,f_,f_,f_,f_,f_,f_,f_,f_,f_] HT_.out ?_
       refine take_ (i := 3) (N := some 13) (v := ?_) (a' := ?_) #[t_,t_,t_,t_,f_,f_,f_,f_,f_,f_,f_,f_,f_,f_,f_,f_,f_,f_,f_,f_,f_,f_,f_,f_] rfl rfl (take_ofW HT_.out HW_.out (by kernel_rfl)) (fun _ _ _ h => h) (Or.inl ⟨by rfl, ?_⟩) hHeld ?_ ?_
       rotate_left
       ·rintro w' ⟨s0, s1, s2, s3, s4, s5, s6, s7, s8, s9, s10, s11, s12, s13, s14, s15, s16, s17, s18, s19, s20, s21, s22, s23, s24, s25, s26⟩
        go_simp
        with_reducible rfl
       rotate_left
       ·simp only [pz_]
        rfl
       refine one_ (i := 4) (N := some 14) #[t_,t_,t_,t_,t_,f_,f_,f_,f_,f_,f_,f_,f_,f_,f_,f_,f_,f_,f_,f_,f_,f_,f_,f_] rfl rfl (one_of HT_.out (by kernel_rfl)) (by decide) (fun K hK => ?_)
       refine goes_ Try.func167 (by kernel_rfl) rfl #[.agg #[.string ((rd_T130 l0 x3_1).f0), .int .i64 ((rd_T130 l0 x3_1).f1), .int .i64 ((rd_T130 l0 x3_1).f2), .int .i64 ((rd_T130 l0 x3_1).f3), .int .i64 ((rd_T130 l0 x3_1).f4), .int .i64 ((rd_T130 l0 x3_1).f5), .int .i64 ((rd_T130 l0 x3_1).f6), .int .i64 ((rd_T130 l0 x3_1).f7), .int .i64 ((rd_T130 l0 x3_1).f8)]] (by rfl) rfl rfl ag_ ?_
       with_reducible refine (spec_IsArticle.calls k1 ((rd_T130 l0 x3_1).f0) ((rd_T130 l0 x3_1).f1) ((rd_T130 l0 x3_1).f2) ((rd_T130 l0 x3_1).f3) ((rd_T130 l0 x3_1).f4) ((rd_T130 l0 x3_1).f5) ((rd_T130 l0 x3_1).f6) ((rd_T130 l0 x3_1).f7) ((rd_T130 l0 x3_1).f8) true _ A4.out).mono ?_
       rintro e w12 ⟨rfl, hb⟩
       refine ⟨_, rfl, ?_⟩
       replace HB := Aside0.mk (below_step (bl_ HB.out) hb)
       (try clear hb)
       (try clear hb2)
       (try clear hk)
       (try clear hi)
       refine hK.out _ _ ⟨(bc_ HB.out hw122_0 :), (bc_ HB.out hw122_1 :), (bc_ HB.out hw122_2 :), (bc_ HB.out hw122_3 :), (bc_ HB.out hw122_4 :), (bc_ HB.out hw122_5 :), (bc_ HB.out hw122_6 :), (bc_ HB.out hw122_7 :), (bc_ HB.out hw122_8 :), (bc_ HB.out hw124_0 :), (bc_ HB.out hw124_1 :), (bc_ HB.out hw124_2 :), (bc_ HB.out hw124_3 :), (bc_ HB.out hw124_4 :), (bc_ HB.out hw124_5 :), (bc_ HB.out hw124_6 :), (bc_ HB.out hw124_7 :), (bc_ HB.out hw124_8 :), (bc_ HB.out hw125_0 :), (bc_ HB.out hw125_1 :), (bc_ HB.out hw125_2 :), (bc_ HB.out hw125_3 :), (bc_ HB.out hw125_4 :), (bc_ HB.out hw125_5 :), (bc_ HB.out hw125_6 :), (bc_ HB.out hw125_7 :), (bc_ HB.out hw125_8 :)⟩ (fun hHeld => ?_)
       clear hK K
       refine norm_ (a' := ?_) ?_ ?_
       rotate_left
       ·show Act.put _ (some 14) _ = _
        simp only [pz_]
        rfl
       refine pu_ 5 15 #[t_,t_,t_,t_,t_,t_,f_,f_,f_,f_,f_,f_,f_,f_,f_,f_,f_,f_,f_,f_,f_,f_,f_,f_] HT_.out ?_
       refine pu_ 6 16 #[t_,t_,t_,t_,t_,t_,t_,f_,f_,f_,f_,f_,f_,f_,f_,f_,f_,f_,f_,f_,f_,f_,f_,f_] HT_.out ?_
       refine pu_ 7 17 #[t_,t_,t_,t_,t_,t_,t_,t_,f_,f_,f_,f_,f_,f_,f_,f_,f_,f_,f_,f_,f_,f_,f_,f_] HT_.out ?_
       refine pu_ 8 18 #[t_,t_,t_,t_,t_,t_,t_,t_,t_,f_,f_,f_,f_,f_,f_,f_,f_,f_,f_,f_,f_,f_,f_,f_] HT_.out ?_
       refine pu_ 9 19 #[t_,t_,t_,t_,t_,t_,t_,t_,t_,t_,f_,f_,f_,f_,f_,f_,f_,f_,f_,f_,f_,f_,f_,f_] HT_.out ?_
       refine pu_ 10 20 #[t_,t_,t_,t_,t_,t_,t_,t_,t_,t_,t_,f_,f_,f_,f_,f_,f_,f_,f_,f_,f_,f_,f_,f_] HT_.out ?_
       refine pu_ 11 21 #[t_,t_,t_,t_,t_,t_,t_,t_,t_,t_,t_,t_,f_,f_,f_,f_,f_,f_,f_,f_,f_,f_,f_,f_] HT_.out ?_
       refine pu_ 12 22 #[t_,t_,t_,t_,t_,t_,t_,t_,t_,t_,t_,t_,t_,f_,f_,f_,f_,f_,f_,f_,f_,f_,f_,f_] HT_.out ?_
       refine pu_ 13 23 #[t_,t_,t_,t_,t_,t_,t_,t_,t_,t_,t_,t_,t_,t_,f_,f_,f_,f_,f_,f_,f_,f_,f_,f_] HT_.out ?_
       refine pu_ 14 24 #[t_,t_,t_,t_,t_,t_,t_,t_,t_,t_,t_,t_,t_,t_,t_,f_,f_,f_,f_,f_,f_,f_,f_,f_] HT_.out ?_
       refine pu_ 16 26 #[t_,t_,t_,t_,t_,t_,t_,t_,t_,t_,t_,t_,t_,t_,t_,f_,t_,f_,f_,f_,f_,f_,f_,f_] HT_.out ?_
       refine pu_ 17 27 #[t_,t_,t_,t_,t_,t_,t_,t_,t_,t_,t_,t_,t_,t_,t_,f_,t_,t_,f_,f_,f_,f_,f_,f_] HT_.out ?_
       refine pu_ 18 28 #[t_,t_,t_,t_,t_,t_,t_,t_,t_,t_,t_,t_,t_,t_,t_,f_,t_,t_,t_,f_,f_,f_,f_,f_] HT_.out ?_
       refine pu_ 19 29 #[t_,t_,t_,t_,t_,t_,t_,t_,t_,t_,t_,t_,t_,t_,t_,f_,t_,t_,t_,t_,f_,f_,f_,f_] HT_.out ?_
       refine take_ (i := 15) (N := some 25) (v := ?_) (a' := ?_) #[t_,t_,t_,t_,t_,t_,t_,t_,t_,t_,t_,t_,t_,t_,t_,t_,t_,t_,t_,t_,f_,f_,f_,f_] rfl rfl (take_ofW HT_.out HW_.out (by kernel_rfl)) (fun _ _ _ h => h) (Or.inl ⟨by rfl, ?_⟩) hHeld ?_ ?_
       rotate_left
       ·rintro w' ⟨s0, s1, s2, s3, s4, s5, s6, s7, s8, s9, s10, s11, s12, s13, s14, s15, s16, s17, s18, s19, s20, s21, s22, s23, s24, s25, s26⟩
        go_simp
        with_reducible rfl
       rotate_left
       ·simp only [pz_]
        rfl
       refine take_ (i := 20) (N := some 30) (v := ?_) (a' := ?_) #[t_,t_,t_,t_,t_,t_,t_,t_,t_,t_,t_,t_,t_,t_,t_,t_,t_,t_,t_,t_,t_,f_,f_,f_] rfl rfl (take_ofW HT_.out HW_.out (by kernel_rfl)) (fun _ _ _ h => h) (Or.inl ⟨by rfl, ?_⟩) hHeld ?_ ?_
       rotate_left
       ·rintro w' ⟨s0, s1, s2, s3, s4, s5, s6, s7, s8, s9, s10, s11, s12, s13, s14, s15, s16, s17, s18, s19, s20, s21, s22, s23, s24, s25, s26⟩
        go_simp
        with_reducible rfl
       rotate_left
       ·simp only [pz_]
        rfl
       refine pu_ 21 31 #[t_,t_,t_,t_,t_,t_,t_,t_,t_,t_,t_,t_,t_,t_,t_,t_,t_,t_,t_,t_,t_,t_,f_,f_] HT_.out ?_
       refine pu_ 22 32 #[t_,t_,t_,t_,t_,t_,t_,t_,t_,t_,t_,t_,t_,t_,t_,t_,t_,t_,t_,t_,t_,t_,t_,f_] HT_.out ?_
       refine pu_ 23 33 #[t_,t_,t_,t_,t_,t_,t_,t_,t_,t_,t_,t_,t_,t_,t_,t_,t_,t_,t_,t_,t_,t_,t_,t_] HT_.out ?_
       refine done_ (done_of HT_.out (by kernel_rfl)) ?_
       try go_wp2
       go_roundg k1
       case measure => have := HK1.out; omega
       case rel => exact ⟨(wrap64 (x3_1 + 1)), (by first | rfl | (simp; done) | (simp [*]; done)), H', ⟨by have := HK1.out; omega⟩, ⟨bl_ HB.out⟩⟩
      ·rw [if_neg c10] at H
       have c10b0 : (Op.bytesLess (((rd_T130 l0 (ji7)).f0).toList) (((rd_T130 l0 x3_1).f0).toList)) = false := by simpa using c10
       clear c10
       obtain rfl := Option.some.inj H
       try go_wp2
       replace HB := Aside0.mk (below_drew1 HB.out)
       have p122 : 0 ≤ (x3_1 : Int) := od_
       have q122 : x3_1 < (l0.length : Int) := od_
       obtain ⟨ad122, e122, hx122_0, hx122_1, hx122_2, hx122_3, hx122_4, hx122_5, hx122_6, hx122_7, hx122_8⟩ := at_T130 HR0.out x3_1 p122 q122
       have hw122_8 := hx122_8
       have hw122_7 := hx122_7
       have hw122_6 := hx122_6
       have hw122_5 := hx122_5
       have hw122_4 := hx122_4
       have hw122_3 := hx122_3
       have hw122_2 := hx122_2
       have hw122_1 := hx122_1
       have hw122_0 := hx122_0
       cases e122
       replace hx122_0 := bc_ HB.out hx122_0
       replace hx122_1 := bc_ HB.out hx122_1
       replace hx122_2 := bc_ HB.out hx122_2
       replace hx122_3 := bc_ HB.out hx122_3
       replace hx122_4 := bc_ HB.out hx122_4
       replace hx122_5 := bc_ HB.out hx122_5
       replace hx122_6 := bc_ HB.out hx122_6
       replace hx122_7 := bc_ HB.out hx122_7
       replace hx122_8 := bc_ HB.out hx122_8
       replace p122 := eq_true p122
       replace q122 := eq_true q122
       have p124 : 0 ≤ ((ji7) : Int) := od_
       have q124 : (ji7) < (l0.length : Int) := od_
       obtain ⟨ad124, e124, hx124_0, hx124_1, hx124_2, hx124_3, hx124_4, hx124_5, hx124_6, hx124_7, hx124_8⟩ := at_T130 HR0.out (ji7) p124 q124
       have hw124_8 := hx124_8
       have hw124_7 := hx124_7
       have hw124_6 := hx124_6
       have hw124_5 := hx124_5
       have hw124_4 := hx124_4
       have hw124_3 := hx124_3
       have hw124_2 := hx124_2
       have hw124_1 := hx124_1
       have hw124_0 := hx124_0
       obtain rfl : ad122 = ad124 := (by injection e124)
       replace hx124_0 := bc_ HB.out hx124_0
       replace hx124_1 := bc_ HB.out hx124_1
       replace hx124_2 := bc_ HB.out hx124_2
       replace hx124_3 := bc_ HB.out hx124_3
       replace hx124_4 := bc_ HB.out hx124_4
       replace hx124_5 := bc_ HB.out hx124_5
       replace hx124_6 := bc_ HB.out hx124_6
       replace hx124_7 := bc_ HB.out hx124_7
       replace hx124_8 := bc_ HB.out hx124_8
       replace p124 := eq_true p124
       replace q124 := eq_true q124
       have p125 : 0 ≤ (x3_1 : Int) := od_
       have q125 : x3_1 < (l0.length : Int) := od_
       obtain ⟨ad125, e125, hx125_0, hx125_1, hx125_2, hx125_3, hx125_4, hx125_5, hx125_6, hx125_7, hx125_8⟩ := at_T130 HR0.out x3_1 p125 q125
       have hw125_8 := hx125_8
       have hw125_7 := hx125_7
       have hw125_6 := hx125_6
       have hw125_5 := hx125_5
       have hw125_4 := hx125_4
       have hw125_3 := hx125_3
       have hw125_2 := hx125_2
       have hw125_1 := hx125_1
       have hw125_0 := hx125_0
       obtain rfl : ad122 = ad125 := (by injection e125)
       replace hx125_0 := bc_ HB.out hx125_0
       replace hx125_1 := bc_ HB.out hx125_1
       replace hx125_2 := bc_ HB.out hx125_2
       replace hx125_3 := bc_ HB.out hx125_3
       replace hx125_4 := bc_ HB.out hx125_4
       replace hx125_5 := bc_ HB.out hx125_5
       replace hx125_6 := bc_ HB.out hx125_6
       replace hx125_7 := bc_ HB.out hx125_7
       replace hx125_8 := bc_ HB.out hx125_8
       replace p125 := eq_true p125
       replace q125 := eq_true q125
       refine start_ (n := 24) (S := fun w' => w'.cell? (ad122.add ((x3_1).toNat * 9)) = some (.string ((rd_T130 l0 x3_1).f0)) ∧ w'.cell? ⟨(ad122.add ((x3_1).toNat * 9)).block, (ad122.add ((x3_1).toNat * 9)).off + 1, none⟩ = some (.int .i64 ((rd_T130 l0 x3_1).f1)) ∧ w'.cell? ⟨(ad122.add ((x3_1).toNat * 9)).block, (ad122.add ((x3_1).toNat * 9)).off + 2, none⟩ = some (.int .i64 ((rd_T130 l0 x3_1).f2)) ∧ w'.cell? ⟨(ad122.add ((x3_1).toNat * 9)).block, (ad122.add ((x3_1).toNat * 9)).off + 3, none⟩ = some (.int .i64 ((rd_T130 l0 x3_1).f3)) ∧ w'.cell? ⟨(ad122.add ((x3_1).toNat * 9)).block, (ad122.add ((x3_1).toNat * 9)).off + 4, none⟩ = some (.int .i64 ((rd_T130 l0 x3_1).f4)) ∧ w'.cell? ⟨(ad122.add ((x3_1).toNat * 9)).block, (ad122.add ((x3_1).toNat * 9)).off + 5, none⟩ = some (.int .i64 ((rd_T130 l0 x3_1).f5)) ∧ w'.cell? ⟨(ad122.add ((x3_1).toNat * 9)).block, (ad122.add ((x3_1).toNat * 9)).off + 6, none⟩ = some (.int .i64 ((rd_T130 l0 x3_1).f6)) ∧ w'.cell? ⟨(ad122.add ((x3_1).toNat * 9)).block, (ad122.add ((x3_1).toNat * 9)).off + 7, none⟩ = some (.int .i64 ((rd_T130 l0 x3_1).f7)) ∧ w'.cell? ⟨(ad122.add ((x3_1).toNat * 9)).block, (ad122.add ((x3_1).toNat * 9)).off + 8, none⟩ = some (.int .i64 ((rd_T130 l0 x3_1).f8)) ∧ w'.cell? (ad122.add (((ji7)).toNat * 9)) = some (.string ((rd_T130 l0 (ji7)).f0)) ∧ w'.cell? ⟨(ad122.add (((ji7)).toNat * 9)).block, (ad122.add (((ji7)).toNat * 9)).off + 1, none⟩ = some (.int .i64 ((rd_T130 l0 (ji7)).f1)) ∧ w'.cell? ⟨(ad122.add (((ji7)).toNat * 9)).block, (ad122.add (((ji7)).toNat * 9)).off + 2, none⟩ = some (.int .i64 ((rd_T130 l0 (ji7)).f2)) ∧ w'.cell? ⟨(ad122.add (((ji7)).toNat * 9)).block, (ad122.add (((ji7)).toNat * 9)).off + 3, none⟩ = some (.int .i64 ((rd_T130 l0 (ji7)).f3)) ∧ w'.cell? ⟨(ad122.add (((ji7)).toNat * 9)).block, (ad122.add (((ji7)).toNat * 9)).off + 4, none⟩ = some (.int .i64 ((rd_T130 l0 (ji7)).f4)) ∧ w'.cell? ⟨(ad122.add (((ji7)).toNat * 9)).block, (ad122.add (((ji7)).toNat * 9)).off + 5, none⟩ = some (.int .i64 ((rd_T130 l0 (ji7)).f5)) ∧ w'.cell? ⟨(ad122.add (((ji7)).toNat * 9)).block, (ad122.add (((ji7)).toNat * 9)).off + 6, none⟩ = some (.int .i64 ((rd_T130 l0 (ji7)).f6)) ∧ w'.cell? ⟨(ad122.add (((ji7)).toNat * 9)).block, (ad122.add (((ji7)).toNat * 9)).off + 7, none⟩ = some (.int .i64 ((rd_T130 l0 (ji7)).f7)) ∧ w'.cell? ⟨(ad122.add (((ji7)).toNat * 9)).block, (ad122.add (((ji7)).toNat * 9)).off + 8, none⟩ = some (.int .i64 ((rd_T130 l0 (ji7)).f8)) ∧ w'.cell? (ad122.add ((x3_1).toNat * 9)) = some (.string ((rd_T130 l0 x3_1).f0)) ∧ w'.cell? ⟨(ad122.add ((x3_1).toNat * 9)).block, (ad122.add ((x3_1).toNat * 9)).off + 1, none⟩ = some (.int .i64 ((rd_T130 l0 x3_1).f1)) ∧ w'.cell? ⟨(ad122.add ((x3_1).toNat * 9)).block, (ad122.add ((x3_1).toNat * 9)).off + 2, none⟩ = some (.int .i64 ((rd_T130 l0 x3_1).f2)) ∧ w'.cell? ⟨(ad122.add ((x3_1).toNat * 9)).block, (ad122.add ((x3_1).toNat * 9)).off + 3, none⟩ = some (.int .i64 ((rd_T130 l0 x3_1).f3)) ∧ w'.cell? ⟨(ad122.add ((x3_1).toNat * 9)).block, (ad122.add ((x3_1).toNat * 9)).off + 4, none⟩ = some (.int .i64 ((rd_T130 l0 x3_1).f4)) ∧ w'.cell? ⟨(ad122.add ((x3_1).toNat * 9)).block, (ad122.add ((x3_1).toNat * 9)).off + 5, none⟩ = some (.int .i64 ((rd_T130 l0 x3_1).f5)) ∧ w'.cell? ⟨(ad122.add ((x3_1).toNat * 9)).block, (ad122.add ((x3_1).toNat * 9)).off + 6, none⟩ = some (.int .i64 ((rd_T130 l0 x3_1).f6)) ∧ w'.cell? ⟨(ad122.add ((x3_1).toNat * 9)).block, (ad122.add ((x3_1).toNat * 9)).off + 7, none⟩ = some (.int .i64 ((rd_T130 l0 x3_1).f7)) ∧ w'.cell? ⟨(ad122.add ((x3_1).toNat * 9)).block, (ad122.add ((x3_1).toNat * 9)).off + 8, none⟩ = some (.int .i64 ((rd_T130 l0 x3_1).f8))) (ds := []) #[f_,f_,f_,f_,f_,f_,f_,f_,f_,f_,f_,f_,f_,f_,f_,f_,f_,f_,f_,f_,f_,f_,f_,f_] (by kernel_rfl) rfl rfl ⟨(bc_ HB.out hw122_0 :), (bc_ HB.out hw122_1 :), (bc_ HB.out hw122_2 :), (bc_ HB.out hw122_3 :), (bc_ HB.out hw122_4 :), (bc_ HB.out hw122_5 :), (bc_ HB.out hw122_6 :), (bc_ HB.out hw122_7 :), (bc_ HB.out hw122_8 :), (bc_ HB.out hw124_0 :), (bc_ HB.out hw124_1 :), (bc_ HB.out hw124_2 :), (bc_ HB.out hw124_3 :), (bc_ HB.out hw124_4 :), (bc_ HB.out hw124_5 :), (bc_ HB.out hw124_6 :), (bc_ HB.out hw124_7 :), (bc_ HB.out hw124_8 :), (bc_ HB.out hw125_0 :), (bc_ HB.out hw125_1 :), (bc_ HB.out hw125_2 :), (bc_ HB.out hw125_3 :), (bc_ HB.out hw125_4 :), (bc_ HB.out hw125_5 :), (bc_ HB.out hw125_6 :), (bc_ HB.out hw125_7 :), (bc_ HB.out hw125_8 :)⟩ (fun hHeld => ?_); refine with_tabW spec_AreArticles.tab4 spec_AreArticles.bits4 (fun HT_ HW_ => ?_)
       generalize wr.drew = w13 at HB hx122_0 hx122_1 hx122_2 hx122_3 hx122_4 hx122_5 hx122_6 hx122_7 hx122_8 hx124_0 hx124_1 hx124_2 hx124_3 hx124_4 hx124_5 hx124_6 hx124_7 hx124_8 hx125_0 hx125_1 hx125_2 hx125_3 hx125_4 hx125_5 hx125_6 hx125_7 hx125_8 hHeld ⊢
       refine pu_ 0 10 #[t_,f_,f_,f_,f_,f_,f_,f_,f_,f_,f_,f_,f_,f_,f_,f_,f_,f_,f_,f_,f_,f_,f_,f_] HT_.out ?_
       refine pu_ 1 11 #[t_,t_,f_,f_,f_,f_,f_,f_,f_,f_,f_,f_,f_,f_,f_,f_,f_,f_,f_,f_,f_,f_,f_,f_] HT_.out ?_
       refine pu_ 2 12 #[t_,t_,t_,f_,f_,f_,f_,f_,f_,f_,f_,f_,f_,f_,f_,f_,f_,f_,f_,f_,f_,f_,f_,f_] HT_.out ?_
       refine take_ (i := 3) (N := some 13) (v := ?_) (a' := ?_) #[t_,t_,t_,t_,f_,f_,f_,f_,f_,f_,f_,f_,f_,f_,f_,f_,f_,f_,f_,f_,f_,f_,f_,f_] rfl rfl (take_ofW HT_.out HW_.out (by kernel_rfl)) (fun _ _ _ h => h) (Or.inl ⟨by rfl, ?_⟩) hHeld ?_ ?_
       rotate_left
       ·rintro w' ⟨s0, s1, s2, s3, s4, s5, s6, s7, s8, s9, s10, s11, s12, s13, s14, s15, s16, s17, s18, s19, s20, s21, s22, s23, s24, s25, s26⟩
        go_simp
        with_reducible rfl
       rotate_left
       ·simp only [pz_]
        rfl
       refine one_ (i := 4) (N := some 14) #[t_,t_,t_,t_,t_,f_,f_,f_,f_,f_,f_,f_,f_,f_,f_,f_,f_,f_,f_,f_,f_,f_,f_,f_] rfl rfl (one_of HT_.out (by kernel_rfl)) (by decide) (fun K hK => ?_)
       refine goes_ Try.func167 (by kernel_rfl) rfl #[.agg #[.string ((rd_T130 l0 x3_1).f0), .int .i64 ((rd_T130 l0 x3_1).f1), .int .i64 ((rd_T130 l0 x3_1).f2), .int .i64 ((rd_T130 l0 x3_1).f3), .int .i64 ((rd_T130 l0 x3_1).f4), .int .i64 ((rd_T130 l0 x3_1).f5), .int .i64 ((rd_T130 l0 x3_1).f6), .int .i64 ((rd_T130 l0 x3_1).f7), .int .i64 ((rd_T130 l0 x3_1).f8)]] (by rfl) rfl rfl ag_ ?_
       with_reducible refine (spec_IsArticle.calls k1 ((rd_T130 l0 x3_1).f0) ((rd_T130 l0 x3_1).f1) ((rd_T130 l0 x3_1).f2) ((rd_T130 l0 x3_1).f3) ((rd_T130 l0 x3_1).f4) ((rd_T130 l0 x3_1).f5) ((rd_T130 l0 x3_1).f6) ((rd_T130 l0 x3_1).f7) ((rd_T130 l0 x3_1).f8) true _ A4.out).mono ?_
       rintro e w14 ⟨rfl, hb⟩
       refine ⟨_, rfl, ?_⟩
       replace HB := Aside0.mk (below_step (bl_ HB.out) hb)
       (try clear hb)
       (try clear hb2)
       (try clear hk)
       (try clear hi)
       refine hK.out _ _ ⟨(bc_ HB.out hw122_0 :), (bc_ HB.out hw122_1 :), (bc_ HB.out hw122_2 :), (bc_ HB.out hw122_3 :), (bc_ HB.out hw122_4 :), (bc_ HB.out hw122_5 :), (bc_ HB.out hw122_6 :), (bc_ HB.out hw122_7 :), (bc_ HB.out hw122_8 :), (bc_ HB.out hw124_0 :), (bc_ HB.out hw124_1 :), (bc_ HB.out hw124_2 :), (bc_ HB.out hw124_3 :), (bc_ HB.out hw124_4 :), (bc_ HB.out hw124_5 :), (bc_ HB.out hw124_6 :), (bc_ HB.out hw124_7 :), (bc_ HB.out hw124_8 :), (bc_ HB.out hw125_0 :), (bc_ HB.out hw125_1 :), (bc_ HB.out hw125_2 :), (bc_ HB.out hw125_3 :), (bc_ HB.out hw125_4 :), (bc_ HB.out hw125_5 :), (bc_ HB.out hw125_6 :), (bc_ HB.out hw125_7 :), (bc_ HB.out hw125_8 :)⟩ (fun hHeld => ?_)
       clear hK K
       refine norm_ (a' := ?_) ?_ ?_
       rotate_left
       ·show Act.put _ (some 14) _ = _
        simp only [pz_]
        rfl
       refine pu_ 5 15 #[t_,t_,t_,t_,t_,t_,f_,f_,f_,f_,f_,f_,f_,f_,f_,f_,f_,f_,f_,f_,f_,f_,f_,f_] HT_.out ?_
       refine pu_ 6 16 #[t_,t_,t_,t_,t_,t_,t_,f_,f_,f_,f_,f_,f_,f_,f_,f_,f_,f_,f_,f_,f_,f_,f_,f_] HT_.out ?_
       refine pu_ 7 17 #[t_,t_,t_,t_,t_,t_,t_,t_,f_,f_,f_,f_,f_,f_,f_,f_,f_,f_,f_,f_,f_,f_,f_,f_] HT_.out ?_
       refine pu_ 8 18 #[t_,t_,t_,t_,t_,t_,t_,t_,t_,f_,f_,f_,f_,f_,f_,f_,f_,f_,f_,f_,f_,f_,f_,f_] HT_.out ?_
       refine pu_ 9 19 #[t_,t_,t_,t_,t_,t_,t_,t_,t_,t_,f_,f_,f_,f_,f_,f_,f_,f_,f_,f_,f_,f_,f_,f_] HT_.out ?_
       refine pu_ 10 20 #[t_,t_,t_,t_,t_,t_,t_,t_,t_,t_,t_,f_,f_,f_,f_,f_,f_,f_,f_,f_,f_,f_,f_,f_] HT_.out ?_
       refine pu_ 11 21 #[t_,t_,t_,t_,t_,t_,t_,t_,t_,t_,t_,t_,f_,f_,f_,f_,f_,f_,f_,f_,f_,f_,f_,f_] HT_.out ?_
       refine pu_ 12 22 #[t_,t_,t_,t_,t_,t_,t_,t_,t_,t_,t_,t_,t_,f_,f_,f_,f_,f_,f_,f_,f_,f_,f_,f_] HT_.out ?_
       refine pu_ 13 23 #[t_,t_,t_,t_,t_,t_,t_,t_,t_,t_,t_,t_,t_,t_,f_,f_,f_,f_,f_,f_,f_,f_,f_,f_] HT_.out ?_
       refine pu_ 14 24 #[t_,t_,t_,t_,t_,t_,t_,t_,t_,t_,t_,t_,t_,t_,t_,f_,f_,f_,f_,f_,f_,f_,f_,f_] HT_.out ?_
       refine pu_ 16 26 #[t_,t_,t_,t_,t_,t_,t_,t_,t_,t_,t_,t_,t_,t_,t_,f_,t_,f_,f_,f_,f_,f_,f_,f_] HT_.out ?_
       refine pu_ 17 27 #[t_,t_,t_,t_,t_,t_,t_,t_,t_,t_,t_,t_,t_,t_,t_,f_,t_,t_,f_,f_,f_,f_,f_,f_] HT_.out ?_
       refine pu_ 18 28 #[t_,t_,t_,t_,t_,t_,t_,t_,t_,t_,t_,t_,t_,t_,t_,f_,t_,t_,t_,f_,f_,f_,f_,f_] HT_.out ?_
       refine pu_ 19 29 #[t_,t_,t_,t_,t_,t_,t_,t_,t_,t_,t_,t_,t_,t_,t_,f_,t_,t_,t_,t_,f_,f_,f_,f_] HT_.out ?_
       refine take_ (i := 15) (N := some 25) (v := ?_) (a' := ?_) #[t_,t_,t_,t_,t_,t_,t_,t_,t_,t_,t_,t_,t_,t_,t_,t_,t_,t_,t_,t_,f_,f_,f_,f_] rfl rfl (take_ofW HT_.out HW_.out (by kernel_rfl)) (fun _ _ _ h => h) (Or.inl ⟨by rfl, ?_⟩) hHeld ?_ ?_
       rotate_left
       ·rintro w' ⟨s0, s1, s2, s3, s4, s5, s6, s7, s8, s9, s10, s11, s12, s13, s14, s15, s16, s17, s18, s19, s20, s21, s22, s23, s24, s25, s26⟩
        go_simp
        with_reducible rfl
       rotate_left
       ·simp only [pz_]
        rfl
       refine take_ (i := 20) (N := some 30) (v := ?_) (a' := ?_) #[t_,t_,t_,t_,t_,t_,t_,t_,t_,t_,t_,t_,t_,t_,t_,t_,t_,t_,t_,t_,t_,f_,f_,f_] rfl rfl (take_ofW HT_.out HW_.out (by kernel_rfl)) (fun _ _ _ h => h) (Or.inl ⟨by rfl, ?_⟩) hHeld ?_ ?_
       rotate_left
       ·rintro w' ⟨s0, s1, s2, s3, s4, s5, s6, s7, s8, s9, s10, s11, s12, s13, s14, s15, s16, s17, s18, s19, s20, s21, s22, s23, s24, s25, s26⟩
        go_simp
        with_reducible rfl
       rotate_left
       ·simp only [pz_]
        rfl
       refine pu_ 21 31 #[t_,t_,t_,t_,t_,t_,t_,t_,t_,t_,t_,t_,t_,t_,t_,t_,t_,t_,t_,t_,t_,t_,f_,f_] HT_.out ?_
       refine pu_ 22 32 #[t_,t_,t_,t_,t_,t_,t_,t_,t_,t_,t_,t_,t_,t_,t_,t_,t_,t_,t_,t_,t_,t_,t_,f_] HT_.out ?_
       refine pu_ 23 33 #[t_,t_,t_,t_,t_,t_,t_,t_,t_,t_,t_,t_,t_,t_,t_,t_,t_,t_,t_,t_,t_,t_,t_,t_] HT_.out ?_
       refine done_ (done_of HT_.out (by kernel_rfl)) ?_
       try go_wp2
       go_ret
       exact ⟨by first | rfl | (simp [errW_none, errW_some] <;> rfl) | (simp only [← hji7]; first | rfl | (simp [errW_none, errW_some] <;> rfl)) | (simp [*, errW_none, errW_some] <;> rfl), bl_ HB.out⟩
     ·rw [if_neg c6] at H
      have c6b0 : decide (0 < x3_1) = false := decide_eq_false c6
      clear c6
      have H' := Aside0.mk H
      clear H
      try go_wp2
      replace HB := Aside0.mk (below_drew1 HB.out)
      have p122 : 0 ≤ (x3_1 : Int) := od_
      have q122 : x3_1 < (l0.length : Int) := od_
      obtain ⟨ad122, e122, hx122_0, hx122_1, hx122_2, hx122_3, hx122_4, hx122_5, hx122_6, hx122_7, hx122_8⟩ := at_T130 HR0.out x3_1 p122 q122
      have hw122_8 := hx122_8
      have hw122_7 := hx122_7
      have hw122_6 := hx122_6
      have hw122_5 := hx122_5
      have hw122_4 := hx122_4
      have hw122_3 := hx122_3
      have hw122_2 := hx122_2
      have hw122_1 := hx122_1
      have hw122_0 := hx122_0
      cases e122
      replace hx122_0 := bc_ HB.out hx122_0
      replace hx122_1 := bc_ HB.out hx122_1
      replace hx122_2 := bc_ HB.out hx122_2
      replace hx122_3 := bc_ HB.out hx122_3
      replace hx122_4 := bc_ HB.out hx122_4
      replace hx122_5 := bc_ HB.out hx122_5
      replace hx122_6 := bc_ HB.out hx122_6
      replace hx122_7 := bc_ HB.out hx122_7
      replace hx122_8 := bc_ HB.out hx122_8
      replace p122 := eq_true p122
      replace q122 := eq_true q122
      refine start_ (n := 24) (S := fun w' => w'.cell? (ad122.add ((x3_1).toNat * 9)) = some (.string ((rd_T130 l0 x3_1).f0)) ∧ w'.cell? ⟨(ad122.add ((x3_1).toNat * 9)).block, (ad122.add ((x3_1).toNat * 9)).off + 1, none⟩ = some (.int .i64 ((rd_T130 l0 x3_1).f1)) ∧ w'.cell? ⟨(ad122.add ((x3_1).toNat * 9)).block, (ad122.add ((x3_1).toNat * 9)).off + 2, none⟩ = some (.int .i64 ((rd_T130 l0 x3_1).f2)) ∧ w'.cell? ⟨(ad122.add ((x3_1).toNat * 9)).block, (ad122.add ((x3_1).toNat * 9)).off + 3, none⟩ = some (.int .i64 ((rd_T130 l0 x3_1).f3)) ∧ w'.cell? ⟨(ad122.add ((x3_1).toNat * 9)).block, (ad122.add ((x3_1).toNat * 9)).off + 4, none⟩ = some (.int .i64 ((rd_T130 l0 x3_1).f4)) ∧ w'.cell? ⟨(ad122.add ((x3_1).toNat * 9)).block, (ad122.add ((x3_1).toNat * 9)).off + 5, none⟩ = some (.int .i64 ((rd_T130 l0 x3_1).f5)) ∧ w'.cell? ⟨(ad122.add ((x3_1).toNat * 9)).block, (ad122.add ((x3_1).toNat * 9)).off + 6, none⟩ = some (.int .i64 ((rd_T130 l0 x3_1).f6)) ∧ w'.cell? ⟨(ad122.add ((x3_1).toNat * 9)).block, (ad122.add ((x3_1).toNat * 9)).off + 7, none⟩ = some (.int .i64 ((rd_T130 l0 x3_1).f7)) ∧ w'.cell? ⟨(ad122.add ((x3_1).toNat * 9)).block, (ad122.add ((x3_1).toNat * 9)).off + 8, none⟩ = some (.int .i64 ((rd_T130 l0 x3_1).f8))) (ds := []) #[f_,f_,f_,f_,f_,f_,f_,f_,f_,f_,f_,f_,f_,f_,f_,f_,f_,f_,f_,f_,f_,f_,f_,f_] (by kernel_rfl) rfl rfl ⟨(bc_ HB.out hw122_0 :), (bc_ HB.out hw122_1 :), (bc_ HB.out hw122_2 :), (bc_ HB.out hw122_3 :), (bc_ HB.out hw122_4 :), (bc_ HB.out hw122_5 :), (bc_ HB.out hw122_6 :), (bc_ HB.out hw122_7 :), (bc_ HB.out hw122_8 :)⟩ (fun hHeld => ?_); refine with_tabW spec_AreArticles.tab4 spec_AreArticles.bits4 (fun HT_ HW_ => ?_)
      generalize wr.drew = w15 at HB hx122_0 hx122_1 hx122_2 hx122_3 hx122_4 hx122_5 hx122_6 hx122_7 hx122_8 hHeld ⊢
      refine pu_ 0 10 #[t_,f_,f_,f_,f_,f_,f_,f_,f_,f_,f_,f_,f_,f_,f_,f_,f_,f_,f_,f_,f_,f_,f_,f_] HT_.out ?_
      refine pu_ 1 11 #[t_,t_,f_,f_,f_,f_,f_,f_,f_,f_,f_,f_,f_,f_,f_,f_,f_,f_,f_,f_,f_,f_,f_,f_] HT_.out ?_
      refine pu_ 2 12 #[t_,t_,t_,f_,f_,f_,f_,f_,f_,f_,f_,f_,f_,f_,f_,f_,f_,f_,f_,f_,f_,f_,f_,f_] HT_.out ?_
      refine take_ (i := 3) (N := some 13) (v := ?_) (a' := ?_) #[t_,t_,t_,t_,f_,f_,f_,f_,f_,f_,f_,f_,f_,f_,f_,f_,f_,f_,f_,f_,f_,f_,f_,f_] rfl rfl (take_ofW HT_.out HW_.out (by kernel_rfl)) (fun _ _ _ h => h) (Or.inl ⟨by rfl, ?_⟩) hHeld ?_ ?_
      rotate_left
      ·rintro w' ⟨s0, s1, s2, s3, s4, s5, s6, s7, s8⟩
       go_simp
       with_reducible rfl
      rotate_left
      ·simp only [pz_]
       rfl
      refine one_ (i := 4) (N := some 14) #[t_,t_,t_,t_,t_,f_,f_,f_,f_,f_,f_,f_,f_,f_,f_,f_,f_,f_,f_,f_,f_,f_,f_,f_] rfl rfl (one_of HT_.out (by kernel_rfl)) (by decide) (fun K hK => ?_)
      refine goes_ Try.func167 (by kernel_rfl) rfl #[.agg #[.string ((rd_T130 l0 x3_1).f0), .int .i64 ((rd_T130 l0 x3_1).f1), .int .i64 ((rd_T130 l0 x3_1).f2), .int .i64 ((rd_T130 l0 x3_1).f3), .int .i64 ((rd_T130 l0 x3_1).f4), .int .i64 ((rd_T130 l0 x3_1).f5), .int .i64 ((rd_T130 l0 x3_1).f6), .int .i64 ((rd_T130 l0 x3_1).f7), .int .i64 ((rd_T130 l0 x3_1).f8)]] (by rfl) rfl rfl ag_ ?_
      with_reducible refine (spec_IsArticle.calls k1 ((rd_T130 l0 x3_1).f0) ((rd_T130 l0 x3_1).f1) ((rd_T130 l0 x3_1).f2) ((rd_T130 l0 x3_1).f3) ((rd_T130 l0 x3_1).f4) ((rd_T130 l0 x3_1).f5) ((rd_T130 l0 x3_1).f6) ((rd_T130 l0 x3_1).f7) ((rd_T130 l0 x3_1).f8) true _ A4.out).mono ?_
      rintro e w16 ⟨rfl, hb⟩
      refine ⟨_, rfl, ?_⟩
      replace HB := Aside0.mk (below_step (bl_ HB.out) hb)
      (try clear hb)
      (try clear hb2)
      (try clear hk)
      (try clear hi)
      refine hK.out _ _ ⟨(bc_ HB.out hw122_0 :), (bc_ HB.out hw122_1 :), (bc_ HB.out hw122_2 :), (bc_ HB.out hw122_3 :), (bc_ HB.out hw122_4 :), (bc_ HB.out hw122_5 :), (bc_ HB.out hw122_6 :), (bc_ HB.out hw122_7 :), (bc_ HB.out hw122_8 :)⟩ (fun hHeld => ?_)
      clear hK K
      refine norm_ (a' := ?_) ?_ ?_
      rotate_left
      ·show Act.put _ (some 14) _ = _
       simp only [pz_]
       rfl
      refine pu_ 5 15 #[t_,t_,t_,t_,t_,t_,f_,f_,f_,f_,f_,f_,f_,f_,f_,f_,f_,f_,f_,f_,f_,f_,f_,f_] HT_.out ?_
      refine pu_ 6 16 #[t_,t_,t_,t_,t_,t_,t_,f_,f_,f_,f_,f_,f_,f_,f_,f_,f_,f_,f_,f_,f_,f_,f_,f_] HT_.out ?_
      refine pu_ 7 17 #[t_,t_,t_,t_,t_,t_,t_,t_,f_,f_,f_,f_,f_,f_,f_,f_,f_,f_,f_,f_,f_,f_,f_,f_] HT_.out ?_
      refine pu_ 8 18 #[t_,t_,t_,t_,t_,t_,t_,t_,t_,f_,f_,f_,f_,f_,f_,f_,f_,f_,f_,f_,f_,f_,f_,f_] HT_.out ?_
      refine pu_ 9 19 #[t_,t_,t_,t_,t_,t_,t_,t_,t_,t_,f_,f_,f_,f_,f_,f_,f_,f_,f_,f_,f_,f_,f_,f_] HT_.out ?_
      refine un_ 10 20 #[t_,t_,t_,t_,t_,t_,t_,t_,t_,t_,t_,f_,f_,f_,f_,f_,f_,f_,f_,f_,f_,f_,f_,f_] HT_.out ?_
      refine un_ 11 21 #[t_,t_,t_,t_,t_,t_,t_,t_,t_,t_,t_,t_,f_,f_,f_,f_,f_,f_,f_,f_,f_,f_,f_,f_] HT_.out ?_
      refine un_ 12 22 #[t_,t_,t_,t_,t_,t_,t_,t_,t_,t_,t_,t_,t_,f_,f_,f_,f_,f_,f_,f_,f_,f_,f_,f_] HT_.out ?_
      refine un_ 13 23 #[t_,t_,t_,t_,t_,t_,t_,t_,t_,t_,t_,t_,t_,t_,f_,f_,f_,f_,f_,f_,f_,f_,f_,f_] HT_.out ?_
      refine un_ 14 24 #[t_,t_,t_,t_,t_,t_,t_,t_,t_,t_,t_,t_,t_,t_,t_,f_,f_,f_,f_,f_,f_,f_,f_,f_] HT_.out ?_
      refine un_ 15 25 #[t_,t_,t_,t_,t_,t_,t_,t_,t_,t_,t_,t_,t_,t_,t_,t_,f_,f_,f_,f_,f_,f_,f_,f_] HT_.out ?_
      refine un_ 16 26 #[t_,t_,t_,t_,t_,t_,t_,t_,t_,t_,t_,t_,t_,t_,t_,t_,t_,f_,f_,f_,f_,f_,f_,f_] HT_.out ?_
      refine un_ 17 27 #[t_,t_,t_,t_,t_,t_,t_,t_,t_,t_,t_,t_,t_,t_,t_,t_,t_,t_,f_,f_,f_,f_,f_,f_] HT_.out ?_
      refine un_ 18 28 #[t_,t_,t_,t_,t_,t_,t_,t_,t_,t_,t_,t_,t_,t_,t_,t_,t_,t_,t_,f_,f_,f_,f_,f_] HT_.out ?_
      refine un_ 19 29 #[t_,t_,t_,t_,t_,t_,t_,t_,t_,t_,t_,t_,t_,t_,t_,t_,t_,t_,t_,t_,f_,f_,f_,f_] HT_.out ?_
      refine un_ 20 30 #[t_,t_,t_,t_,t_,t_,t_,t_,t_,t_,t_,t_,t_,t_,t_,t_,t_,t_,t_,t_,t_,f_,f_,f_] HT_.out ?_
      refine un_ 21 31 #[t_,t_,t_,t_,t_,t_,t_,t_,t_,t_,t_,t_,t_,t_,t_,t_,t_,t_,t_,t_,t_,t_,f_,f_] HT_.out ?_
      refine pu_ 22 32 #[t_,t_,t_,t_,t_,t_,t_,t_,t_,t_,t_,t_,t_,t_,t_,t_,t_,t_,t_,t_,t_,t_,t_,f_] HT_.out ?_
      refine pu_ 23 33 #[t_,t_,t_,t_,t_,t_,t_,t_,t_,t_,t_,t_,t_,t_,t_,t_,t_,t_,t_,t_,t_,t_,t_,t_] HT_.out ?_
      refine done_ (done_of HT_.out (by kernel_rfl)) ?_
      try go_wp2
      go_roundg k1
      case measure => have := HK1.out; omega
      case rel => exact ⟨(wrap64 (x3_1 + 1)), (by first | rfl | (simp; done) | (simp [*]; done)), H', ⟨by have := HK1.out; omega⟩, ⟨bl_ HB.out⟩⟩
    ·replace c5 := Bool.eq_false_iff.mpr c5
     subst c5
     replace H : (some false) = some r := by rw [if_neg (show ¬ (false = true) by decide)] at H; exact H
     obtain rfl := Option.some.inj H
     try go_wp2
     replace HB := Aside0.mk (below_drew1 HB.out)
     have p122 : 0 ≤ (x3_1 : Int) := od_
     have q122 : x3_1 < (l0.length : Int) := od_
     obtain ⟨ad122, e122, hx122_0, hx122_1, hx122_2, hx122_3, hx122_4, hx122_5, hx122_6, hx122_7, hx122_8⟩ := at_T130 HR0.out x3_1 p122 q122
     have hw122_8 := hx122_8
     have hw122_7 := hx122_7
     have hw122_6 := hx122_6
     have hw122_5 := hx122_5
     have hw122_4 := hx122_4
     have hw122_3 := hx122_3
     have hw122_2 := hx122_2
     have hw122_1 := hx122_1
     have hw122_0 := hx122_0
     cases e122
     replace hx122_0 := bc_ HB.out hx122_0
     replace hx122_1 := bc_ HB.out hx122_1
     replace hx122_2 := bc_ HB.out hx122_2
     replace hx122_3 := bc_ HB.out hx122_3
     replace hx122_4 := bc_ HB.out hx122_4
     replace hx122_5 := bc_ HB.out hx122_5
     replace hx122_6 := bc_ HB.out hx122_6
     replace hx122_7 := bc_ HB.out hx122_7
     replace hx122_8 := bc_ HB.out hx122_8
     replace p122 := eq_true p122
     replace q122 := eq_true q122
     refine start_ (n := 24) (S := fun w' => w'.cell? (ad122.add ((x3_1).toNat * 9)) = some (.string ((rd_T130 l0 x3_1).f0)) ∧ w'.cell? ⟨(ad122.add ((x3_1).toNat * 9)).block, (ad122.add ((x3_1).toNat * 9)).off + 1, none⟩ = some (.int .i64 ((rd_T130 l0 x3_1).f1)) ∧ w'.cell? ⟨(ad122.add ((x3_1).toNat * 9)).block, (ad122.add ((x3_1).toNat * 9)).off + 2, none⟩ = some (.int .i64 ((rd_T130 l0 x3_1).f2)) ∧ w'.cell? ⟨(ad122.add ((x3_1).toNat * 9)).block, (ad122.add ((x3_1).toNat * 9)).off + 3, none⟩ = some (.int .i64 ((rd_T130 l0 x3_1).f3)) ∧ w'.cell? ⟨(ad122.add ((x3_1).toNat * 9)).block, (ad122.add ((x3_1).toNat * 9)).off + 4, none⟩ = some (.int .i64 ((rd_T130 l0 x3_1).f4)) ∧ w'.cell? ⟨(ad122.add ((x3_1).toNat * 9)).block, (ad122.add ((x3_1).toNat * 9)).off + 5, none⟩ = some (.int .i64 ((rd_T130 l0 x3_1).f5)) ∧ w'.cell? ⟨(ad122.add ((x3_1).toNat * 9)).block, (ad122.add ((x3_1).toNat * 9)).off + 6, none⟩ = some (.int .i64 ((rd_T130 l0 x3_1).f6)) ∧ w'.cell? ⟨(ad122.add ((x3_1).toNat * 9)).block, (ad122.add ((x3_1).toNat * 9)).off + 7, none⟩ = some (.int .i64 ((rd_T130 l0 x3_1).f7)) ∧ w'.cell? ⟨(ad122.add ((x3_1).toNat * 9)).block, (ad122.add ((x3_1).toNat * 9)).off + 8, none⟩ = some (.int .i64 ((rd_T130 l0 x3_1).f8))) (ds := []) #[f_,f_,f_,f_,f_,f_,f_,f_,f_,f_,f_,f_,f_,f_,f_,f_,f_,f_,f_,f_,f_,f_,f_,f_] (by kernel_rfl) rfl rfl ⟨(bc_ HB.out hw122_0 :), (bc_ HB.out hw122_1 :), (bc_ HB.out hw122_2 :), (bc_ HB.out hw122_3 :), (bc_ HB.out hw122_4 :), (bc_ HB.out hw122_5 :), (bc_ HB.out hw122_6 :), (bc_ HB.out hw122_7 :), (bc_ HB.out hw122_8 :)⟩ (fun hHeld => ?_); refine with_tabW spec_AreArticles.tab4 spec_AreArticles.bits4 (fun HT_ HW_ => ?_)
     generalize wr.drew = w17 at HB hx122_0 hx122_1 hx122_2 hx122_3 hx122_4 hx122_5 hx122_6 hx122_7 hx122_8 hHeld ⊢
     refine pu_ 0 10 #[t_,f_,f_,f_,f_,f_,f_,f_,f_,f_,f_,f_,f_,f_,f_,f_,f_,f_,f_,f_,f_,f_,f_,f_] HT_.out ?_
     refine pu_ 1 11 #[t_,t_,f_,f_,f_,f_,f_,f_,f_,f_,f_,f_,f_,f_,f_,f_,f_,f_,f_,f_,f_,f_,f_,f_] HT_.out ?_
     refine pu_ 2 12 #[t_,t_,t_,f_,f_,f_,f_,f_,f_,f_,f_,f_,f_,f_,f_,f_,f_,f_,f_,f_,f_,f_,f_,f_] HT_.out ?_
     refine take_ (i := 3) (N := some 13) (v := ?_) (a' := ?_) #[t_,t_,t_,t_,f_,f_,f_,f_,f_,f_,f_,f_,f_,f_,f_,f_,f_,f_,f_,f_,f_,f_,f_,f_] rfl rfl (take_ofW HT_.out HW_.out (by kernel_rfl)) (fun _ _ _ h => h) (Or.inl ⟨by rfl, ?_⟩) hHeld ?_ ?_
     rotate_left
     ·rintro w' ⟨s0, s1, s2, s3, s4, s5, s6, s7, s8⟩
      go_simp
      with_reducible rfl
     rotate_left
     ·simp only [pz_]
      rfl
     refine one_ (i := 4) (N := some 14) #[t_,t_,t_,t_,t_,f_,f_,f_,f_,f_,f_,f_,f_,f_,f_,f_,f_,f_,f_,f_,f_,f_,f_,f_] rfl rfl (one_of HT_.out (by kernel_rfl)) (by decide) (fun K hK => ?_)
     refine goes_ Try.func167 (by kernel_rfl) rfl #[.agg #[.string ((rd_T130 l0 x3_1).f0), .int .i64 ((rd_T130 l0 x3_1).f1), .int .i64 ((rd_T130 l0 x3_1).f2), .int .i64 ((rd_T130 l0 x3_1).f3), .int .i64 ((rd_T130 l0 x3_1).f4), .int .i64 ((rd_T130 l0 x3_1).f5), .int .i64 ((rd_T130 l0 x3_1).f6), .int .i64 ((rd_T130 l0 x3_1).f7), .int .i64 ((rd_T130 l0 x3_1).f8)]] (by rfl) rfl rfl ag_ ?_
     with_reducible refine (spec_IsArticle.calls k1 ((rd_T130 l0 x3_1).f0) ((rd_T130 l0 x3_1).f1) ((rd_T130 l0 x3_1).f2) ((rd_T130 l0 x3_1).f3) ((rd_T130 l0 x3_1).f4) ((rd_T130 l0 x3_1).f5) ((rd_T130 l0 x3_1).f6) ((rd_T130 l0 x3_1).f7) ((rd_T130 l0 x3_1).f8) false _ A4.out).mono ?_
     rintro e w18 ⟨rfl, hb⟩
     refine ⟨_, rfl, ?_⟩
     replace HB := Aside0.mk (below_step (bl_ HB.out) hb)
     (try clear hb)
     (try clear hb2)
     (try clear hk)
     (try clear hi)
     refine hK.out _ _ ⟨(bc_ HB.out hw122_0 :), (bc_ HB.out hw122_1 :), (bc_ HB.out hw122_2 :), (bc_ HB.out hw122_3 :), (bc_ HB.out hw122_4 :), (bc_ HB.out hw122_5 :), (bc_ HB.out hw122_6 :), (bc_ HB.out hw122_7 :), (bc_ HB.out hw122_8 :)⟩ (fun hHeld => ?_)
     clear hK K
     refine norm_ (a' := ?_) ?_ ?_
     rotate_left
     ·show Act.put _ (some 14) _ = _
      simp only [pz_]
      rfl
     refine pu_ 5 15 #[t_,t_,t_,t_,t_,t_,f_,f_,f_,f_,f_,f_,f_,f_,f_,f_,f_,f_,f_,f_,f_,f_,f_,f_] HT_.out ?_
     refine pu_ 6 16 #[t_,t_,t_,t_,t_,t_,t_,f_,f_,f_,f_,f_,f_,f_,f_,f_,f_,f_,f_,f_,f_,f_,f_,f_] HT_.out ?_
     refine un_ 7 17 #[t_,t_,t_,t_,t_,t_,t_,t_,f_,f_,f_,f_,f_,f_,f_,f_,f_,f_,f_,f_,f_,f_,f_,f_] HT_.out ?_
     refine un_ 8 18 #[t_,t_,t_,t_,t_,t_,t_,t_,t_,f_,f_,f_,f_,f_,f_,f_,f_,f_,f_,f_,f_,f_,f_,f_] HT_.out ?_
     refine un_ 9 19 #[t_,t_,t_,t_,t_,t_,t_,t_,t_,t_,f_,f_,f_,f_,f_,f_,f_,f_,f_,f_,f_,f_,f_,f_] HT_.out ?_
     refine un_ 10 20 #[t_,t_,t_,t_,t_,t_,t_,t_,t_,t_,t_,f_,f_,f_,f_,f_,f_,f_,f_,f_,f_,f_,f_,f_] HT_.out ?_
     refine un_ 11 21 #[t_,t_,t_,t_,t_,t_,t_,t_,t_,t_,t_,t_,f_,f_,f_,f_,f_,f_,f_,f_,f_,f_,f_,f_] HT_.out ?_
     refine un_ 12 22 #[t_,t_,t_,t_,t_,t_,t_,t_,t_,t_,t_,t_,t_,f_,f_,f_,f_,f_,f_,f_,f_,f_,f_,f_] HT_.out ?_
     refine un_ 13 23 #[t_,t_,t_,t_,t_,t_,t_,t_,t_,t_,t_,t_,t_,t_,f_,f_,f_,f_,f_,f_,f_,f_,f_,f_] HT_.out ?_
     refine un_ 14 24 #[t_,t_,t_,t_,t_,t_,t_,t_,t_,t_,t_,t_,t_,t_,t_,f_,f_,f_,f_,f_,f_,f_,f_,f_] HT_.out ?_
     refine un_ 15 25 #[t_,t_,t_,t_,t_,t_,t_,t_,t_,t_,t_,t_,t_,t_,t_,t_,f_,f_,f_,f_,f_,f_,f_,f_] HT_.out ?_
     refine un_ 16 26 #[t_,t_,t_,t_,t_,t_,t_,t_,t_,t_,t_,t_,t_,t_,t_,t_,t_,f_,f_,f_,f_,f_,f_,f_] HT_.out ?_
     refine un_ 17 27 #[t_,t_,t_,t_,t_,t_,t_,t_,t_,t_,t_,t_,t_,t_,t_,t_,t_,t_,f_,f_,f_,f_,f_,f_] HT_.out ?_
     refine un_ 18 28 #[t_,t_,t_,t_,t_,t_,t_,t_,t_,t_,t_,t_,t_,t_,t_,t_,t_,t_,t_,f_,f_,f_,f_,f_] HT_.out ?_
     refine un_ 19 29 #[t_,t_,t_,t_,t_,t_,t_,t_,t_,t_,t_,t_,t_,t_,t_,t_,t_,t_,t_,t_,f_,f_,f_,f_] HT_.out ?_
     refine un_ 20 30 #[t_,t_,t_,t_,t_,t_,t_,t_,t_,t_,t_,t_,t_,t_,t_,t_,t_,t_,t_,t_,t_,f_,f_,f_] HT_.out ?_
     refine un_ 21 31 #[t_,t_,t_,t_,t_,t_,t_,t_,t_,t_,t_,t_,t_,t_,t_,t_,t_,t_,t_,t_,t_,t_,f_,f_] HT_.out ?_
     refine un_ 22 32 #[t_,t_,t_,t_,t_,t_,t_,t_,t_,t_,t_,t_,t_,t_,t_,t_,t_,t_,t_,t_,t_,t_,t_,f_] HT_.out ?_
     refine pu_ 23 33 #[t_,t_,t_,t_,t_,t_,t_,t_,t_,t_,t_,t_,t_,t_,t_,t_,t_,t_,t_,t_,t_,t_,t_,t_] HT_.out ?_
     refine done_ (done_of HT_.out (by kernel_rfl)) ?_
     try go_wp2
     go_ret
     exact ⟨by first | rfl | (simp [errW_none, errW_some] <;> rfl) | (simp [*, errW_none, errW_some] <;> rfl), bl_ HB.out⟩
   ·rw [if_neg c2] at H
    have c2b0 : decide (x3_1 < (l0.length : Int)) = false := decide_eq_false c2
    clear c2
    obtain rfl := Option.some.inj H
    go_wp2
    go_ret
    exact ⟨by first | rfl | (simp [errW_none, errW_some] <;> rfl) | (simp [*, errW_none, errW_some] <;> rfl), bl_ HB.out⟩
def spec_l17Fits.f (a0_0 : ByteArray) (a0_1 : Int) (a0_2 : Int) (a0_3 : Int) (a0_4 : Int) (a0_5 : Int) (a0_6 : Int) (a0_7 : Int) (a0_8 : Int) (a1 : Int) : Option (Bool) := if a0_2 ≤ a1 then (some (decide ((wrap64 (10 * a0_2)) > (wrap64 (9 * a1))))) else (some false)
set_option maxHeartbeats 8000000 in
set_option maxRecDepth 100000 in
theorem spec_l17Fits.calls (a0_0 : ByteArray) (a0_1 : Int) (a0_2 : Int) (a0_3 : Int) (a0_4 : Int) (a0_5 : Int) (a0_6 : Int) (a0_7 : Int) (a0_8 : Int) (a1 : Int) (r : Bool) (w : World) (h : spec_l17Fits.f a0_0 a0_1 a0_2 a0_3 a0_4 a0_5 a0_6 a0_7 a0_8 a1 = some r) :
    Calls Try.prog 163 #[.agg #[.string a0_0, .int .i64 a0_1, .int .i64 a0_2, .int .i64 a0_3, .int .i64 a0_4, .int .i64 a0_5, .int .i64 a0_6, .int .i64 a0_7, .int .i64 a0_8], .int .i64 a1] w fun e w' => e = .returned (.bool r) ∧ Below w.heap.size w w' := by
  have hu130 := Try.underlying130
  have HB := Aside0.mk (Below.refl w.heap.size w)
  have H : (if a0_2 ≤ a1 then (some (decide ((wrap64 (10 * a0_2)) > (wrap64 (9 * a1))))) else (some false)) = some r := h
  clear h
  by_cases c3 : a0_2 ≤ a1
  · rw [if_pos c3] at H
    have c3b0 : decide (a0_2 ≤ a1) = true := decide_eq_true c3
    clear c3
    obtain rfl := Option.some.inj H
    go_enter Try.func163, Try.ntmps163
    go_wp2_with (first | ((with_reducible refine gate_dst (N := 2) rfl ?_); refine box_event ?hg (N := 2) ?hd (cs := #[.string a0_0, .int .i64 a0_1, .int .i64 a0_2, .int .i64 a0_3, .int .i64 a0_4, .int .i64 a0_5, .int .i64 a0_6, .int .i64 a0_7, .int .i64 a0_8]) (t := 130) ?hr ?_; (case hd => rfl); (case hg => rfl); (case hr => first | (go_simp; done) | (go_simp; rfl)); intro gb126 hg w4 hbox hb; have BK126 := Aside0.mk (hbox); have GW126 := Aside0.mk ((by rw [hg]; exact (below_size (bl_ HB.out)) : w.heap.size ≤ gb126)); have GE126 := Aside0.mk ((by rw [hg]; exact (below_size (bl_ HB.out)) : w.heap.size ≤ gb126)); replace HB := Aside0.mk (below_step (bl_ HB.out) hb); clear hb hbox hg; have hcz5_0 : w4.cell? ⟨gb126, 0, none⟩ = some (.string a0_0) := (blk_cell BK126.out 0).trans rfl; have hcz5_1 : w4.cell? ⟨gb126, 1, none⟩ = some (.int .i64 a0_1) := (blk_cell BK126.out 1).trans rfl; have hcz5_2 : w4.cell? ⟨gb126, 2, none⟩ = some (.int .i64 a0_2) := (blk_cell BK126.out 2).trans rfl; have hcz5_3 : w4.cell? ⟨gb126, 3, none⟩ = some (.int .i64 a0_3) := (blk_cell BK126.out 3).trans rfl; have hcz5_4 : w4.cell? ⟨gb126, 4, none⟩ = some (.int .i64 a0_4) := (blk_cell BK126.out 4).trans rfl; have hcz5_5 : w4.cell? ⟨gb126, 5, none⟩ = some (.int .i64 a0_5) := (blk_cell BK126.out 5).trans rfl; have hcz5_6 : w4.cell? ⟨gb126, 6, none⟩ = some (.int .i64 a0_6) := (blk_cell BK126.out 6).trans rfl; have hcz5_7 : w4.cell? ⟨gb126, 7, none⟩ = some (.int .i64 a0_7) := (blk_cell BK126.out 7).trans rfl; have hcz5_8 : w4.cell? ⟨gb126, 8, none⟩ = some (.int .i64 a0_8) := (blk_cell BK126.out 8).trans rfl; have hfz5_0 := blk_frozen BK126.out 0; have hfz5_1 := blk_frozen BK126.out 1; have hfz5_2 := blk_frozen BK126.out 2; have hfz5_3 := blk_frozen BK126.out 3; have hfz5_4 := blk_frozen BK126.out 4; have hfz5_5 := blk_frozen BK126.out 5; have hfz5_6 := blk_frozen BK126.out 6; have hfz5_7 := blk_frozen BK126.out 7; have hfz5_8 := blk_frozen BK126.out 8))
    go_ret
    exact ⟨by first | rfl | (simp [errW_none, errW_some] <;> rfl) | (simp [*, errW_none, errW_some] <;> rfl), r0_ HB.out GE126.out⟩
  · rw [if_neg c3] at H
    have c3b0 : decide (a0_2 ≤ a1) = false := decide_eq_false c3
    clear c3
    obtain rfl := Option.some.inj H
    go_enter Try.func163, Try.ntmps163
    go_wp2_with (first | ((with_reducible refine gate_dst (N := 2) rfl ?_); refine box_event ?hg (N := 2) ?hd (cs := #[.string a0_0, .int .i64 a0_1, .int .i64 a0_2, .int .i64 a0_3, .int .i64 a0_4, .int .i64 a0_5, .int .i64 a0_6, .int .i64 a0_7, .int .i64 a0_8]) (t := 130) ?hr ?_; (case hd => rfl); (case hg => rfl); (case hr => first | (go_simp; done) | (go_simp; rfl)); intro gb126 hg w6 hbox hb; have BK126 := Aside0.mk (hbox); have GW126 := Aside0.mk ((by rw [hg]; exact (below_size (bl_ HB.out)) : w.heap.size ≤ gb126)); have GE126 := Aside0.mk ((by rw [hg]; exact (below_size (bl_ HB.out)) : w.heap.size ≤ gb126)); replace HB := Aside0.mk (below_step (bl_ HB.out) hb); clear hb hbox hg; have hcz7_0 : w6.cell? ⟨gb126, 0, none⟩ = some (.string a0_0) := (blk_cell BK126.out 0).trans rfl; have hcz7_1 : w6.cell? ⟨gb126, 1, none⟩ = some (.int .i64 a0_1) := (blk_cell BK126.out 1).trans rfl; have hcz7_2 : w6.cell? ⟨gb126, 2, none⟩ = some (.int .i64 a0_2) := (blk_cell BK126.out 2).trans rfl; have hcz7_3 : w6.cell? ⟨gb126, 3, none⟩ = some (.int .i64 a0_3) := (blk_cell BK126.out 3).trans rfl; have hcz7_4 : w6.cell? ⟨gb126, 4, none⟩ = some (.int .i64 a0_4) := (blk_cell BK126.out 4).trans rfl; have hcz7_5 : w6.cell? ⟨gb126, 5, none⟩ = some (.int .i64 a0_5) := (blk_cell BK126.out 5).trans rfl; have hcz7_6 : w6.cell? ⟨gb126, 6, none⟩ = some (.int .i64 a0_6) := (blk_cell BK126.out 6).trans rfl; have hcz7_7 : w6.cell? ⟨gb126, 7, none⟩ = some (.int .i64 a0_7) := (blk_cell BK126.out 7).trans rfl; have hcz7_8 : w6.cell? ⟨gb126, 8, none⟩ = some (.int .i64 a0_8) := (blk_cell BK126.out 8).trans rfl; have hfz7_0 := blk_frozen BK126.out 0; have hfz7_1 := blk_frozen BK126.out 1; have hfz7_2 := blk_frozen BK126.out 2; have hfz7_3 := blk_frozen BK126.out 3; have hfz7_4 := blk_frozen BK126.out 4; have hfz7_5 := blk_frozen BK126.out 5; have hfz7_6 := blk_frozen BK126.out 6; have hfz7_7 := blk_frozen BK126.out 7; have hfz7_8 := blk_frozen BK126.out 8))
    go_ret
    exact ⟨by first | rfl | (simp [errW_none, errW_some] <;> rfl) | (simp [*, errW_none, errW_some] <;> rfl), r0_ HB.out GE126.out⟩
mutual
def spec_IsRack.j0 : Nat → List (S130) → Bool → Int → Int → List Int → List ByteArray → Option (Bool)
 | 0, _, _, _, _, _, _ => none
 | k + 1, x0, x33, x128000, x128001, x128002, x128003 => if x33 = true then (some false) else (spec_IsRack.l0 k x0 0 x128000 x128001 x128002 x128003)
def spec_IsRack.l0 : Nat → List (S130) → Int → Int → Int → List Int → List ByteArray → Option (Bool)
 | 0, _, _, _, _, _, _ => none
 | k + 1, x0, x5, x128000, x128001, x128002, x128003 => if x5 < (x128002.length : Int) then (if 0 ≤ x5 then (if x5 < (x128003.length : Int) then ((spec_l03Find.f k x0 (rdOf ByteArray.empty x128003 x5)).bind fun t132 => ((spec_l01In.f (rd x128002 x5) 20 300).bind fun t134 => (if t134 = true then (if (rdOf ByteArray.empty x128003 x5).toList = ([] : List UInt8) then (spec_IsRack.l0 k x0 (wrap64 (x5 + 1)) x128000 x128001 x128002 x128003) else (if t132 < 0 then (some false) else (if 0 ≤ t132 then (if t132 < (x0.length : Int) then ((spec_l17Fits.f ((rd_T130 x0 t132).f0) ((rd_T130 x0 t132).f1) ((rd_T130 x0 t132).f2) ((rd_T130 x0 t132).f3) ((rd_T130 x0 t132).f4) ((rd_T130 x0 t132).f5) ((rd_T130 x0 t132).f6) ((rd_T130 x0 t132).f7) ((rd_T130 x0 t132).f8) (rd x128002 x5)).bind fun t138 => (if t138 = true then (spec_IsRack.l0 k x0 (wrap64 (x5 + 1)) x128000 x128001 x128002 x128003) else (some false))) else (none)) else (none)))) else (some false)))) else (none)) else (none)) else (some true)
end
def spec_IsRack.f (k : Nat) (l0 : List (S130)) (a1_0 : Int) (a1_1 : Int) (l1_2 : List Int) (l1_3 : List ByteArray) : Option (Bool) := (spec_AreArticles.f k l0).bind fun t128 => (if t128 = true then ((spec_l15Place.f a1_0 a1_1).bind fun t129 => (if t129 = true then ((spec_l01In.f (l1_2.length : Int) 1 12).bind fun t130 => (if t130 = true then (spec_IsRack.j0 k l0 ((l1_3.length : Int) != (l1_2.length : Int)) a1_0 a1_1 l1_2 l1_3) else (spec_IsRack.j0 k l0 true a1_0 a1_1 l1_2 l1_3))) else (spec_IsRack.j0 k l0 true a1_0 a1_1 l1_2 l1_3))) else (spec_IsRack.j0 k l0 true a1_0 a1_1 l1_2 l1_3))
def spec_IsRack.T7 : Bool × List (List Nat × List Nat) := (true, [([], []), ([0], [0]), ([], []), ([1, 2], [1, 2]), ([3], [3]), ([4], [4]), ([5], [5]), ([6, 5], [6]), ([7], [7]), ([8, 7], [7, 8]), ([7], [7]), ([9, 10, 7], [7, 9, 10]), ([11, 7], [7, 11]), ([12, 7], [7, 12]), ([13, 7, 7], [7, 13]), ([14], [14]), ([15, 14], [14, 15]), ([16, 14, 14], [14, 16]), ([17], [17]), ([17], [17]), ([18, 19, 17], [17, 18, 19]), ([20, 17], [17, 20]), ([17], [17]), ([22, 17], [17, 22]), ([17], [17]), ([23, 24, 17], [17, 23, 24]), ([25, 17], [17, 25]), ([21, 26, 17, 17], [17, 21, 26]), ([27, 17], [17, 27]), ([17, 28, 14], [14, 17, 28]), ([14, 29, 7], [7, 14, 29]), ([7, 30], [7, 30])])
def spec_IsRack.B7 : List Nat := [0, 1, 0, 7, 15, 31, 63, 127, 255, 511, 255, 2047, 4095, 8191, 16383, 32767, 65535, 131071, 262143, 262143, 1048575, 2097151, 262143, 4456447, 262143, 29622271, 63176703, 134217727, 268435455, 536870911, 1073741823, 2147483647]
theorem spec_IsRack.tab7 : rtab .any (opsOf Try.f142 7) = spec_IsRack.T7 := by kernel_rfl
theorem spec_IsRack.bits7 : waitsOk spec_IsRack.T7.2 spec_IsRack.B7 = true := by kernel_rfl
set_option maxHeartbeats 8000000 in
set_option maxRecDepth 100000 in
theorem spec_IsRack.calls (k : Nat) (A0 : Option Addr) (c0 : Nat) (l0 : List (S130)) (a1_0 : Int) (a1_1 : Int) (A1_2 : Option Addr) (c1_2 : Nat) (l1_2 : List Int) (A1_3 : Option Addr) (c1_3 : Nat) (l1_3 : List ByteArray) (r : Bool) (w : World) (hr0 : Kd.C k130 w A0 l0.length l0) (hc0 : l0.length ≤ c0) (hr1_2 : Kd.C (Kd.int .i64) w A1_2 l1_2.length l1_2) (hc1_2 : l1_2.length ≤ c1_2) (hr1_3 : Kd.C Kd.string w A1_3 l1_3.length l1_3) (hc1_3 : l1_3.length ≤ c1_3) (h : spec_IsRack.f k l0 a1_0 a1_1 l1_2 l1_3 = some r) :
  Calls Try.prog 142 #[.slice A0 l0.length c0, .agg #[.int .i64 a1_0, .int .i64 a1_1, .slice A1_2 l1_2.length c1_2, .slice A1_3 l1_3.length c1_3]] w fun e w' => e = .returned (.bool r) ∧ Below w.heap.size w w' := by
 have hu67 := Try.underlying67
 have hu130 := Try.underlying130
 have HR0 := Aside0.mk hr0
 have HC0 := Aside0.mk hc0
 clear hr0 hc0
 have HR1_2 := Aside0.mk hr1_2
 have HC1_2 := Aside0.mk hc1_2
 clear hr1_2 hc1_2
 have HR1_3 := Aside0.mk hr1_3
 have HC1_3 := Aside0.mk hc1_3
 clear hr1_3 hc1_3
 have HB := Aside0.mk (Below.refl w.heap.size w)
 have H : ((spec_AreArticles.f k l0).bind fun t128 => (if t128 = true then ((spec_l15Place.f a1_0 a1_1).bind fun t129 => (if t129 = true then ((spec_l01In.f (l1_2.length : Int) 1 12).bind fun t130 => (if t130 = true then (spec_IsRack.j0 k l0 ((l1_3.length : Int) != (l1_2.length : Int)) a1_0 a1_1 l1_2 l1_3) else (spec_IsRack.j0 k l0 true a1_0 a1_1 l1_2 l1_3))) else (spec_IsRack.j0 k l0 true a1_0 a1_1 l1_2 l1_3))) else (spec_IsRack.j0 k l0 true a1_0 a1_1 l1_2 l1_3))) = some r := h
 clear h
 have HC3 := Aside0.mk H
 clear H
 go_enter Try.func142, Try.ntmps142
 go_upto_region 1 with (first | ((with_reducible refine gate_dst (N := 3) rfl ?_); (try (refine gate_guard (by rfl) ?_; dsimp only)); refine box_event ?hg (N := 3) ?hd (cs := #[.int .i64 a1_0, .int .i64 a1_1, .slice A1_2 l1_2.length c1_2, .slice A1_3 l1_3.length c1_3]) (t := 67) ?hr ?_; (case hd => rfl); (case hg => rfl); (case hr => first | (go_simp; done) | (go_simp; rfl)); intro gb127 hg w4 hbox hb; have BK127 := Aside0.mk (hbox); have GW127 := Aside0.mk ((by rw [hg]; exact (below_size (bl_ HB.out)) : w.heap.size ≤ gb127)); have GE127 := Aside0.mk ((by rw [hg]; exact (below_size (bl_ HB.out)) : w.heap.size ≤ gb127)); replace HB := Aside0.mk (below_step (bl_ HB.out) hb); clear hb hbox hg))
 (try simp only [Act.put, List.setIfInBounds_toArray, List.set_cons_zero, List.set_cons_succ])
 go_cut [33] (fun v33 wc => ∃ (kq : Nat) (x33_2 : Bool), v33 = .bool x33_2 ∧ Aside0 (spec_IsRack.j0 kq l0 x33_2 a1_0 a1_1 l1_2 l1_3 = some r) ∧ Aside0 (kq ≤ k) ∧ Aside0 (wc.heap[gb127]? = some (.cells #[.int .i64 a1_0, .int .i64 a1_1, (.slice A1_2 l1_2.length c1_2), (.slice A1_3 l1_3.length c1_3)] 67 (0, 0))) ∧ Aside0 (Below w.heap.size w wc))
 case first =>
  have H := HC3.out
  clear HC3
  replace H := Option.bind_eq_some_iff.mp H
  obtain ⟨t128, A50, H⟩ := H
  replace H : (if t128 = true then ((spec_l15Place.f a1_0 a1_1).bind fun t129 => (if t129 = true then ((spec_l01In.f (l1_2.length : Int) 1 12).bind fun t130 => (if t130 = true then (spec_IsRack.j0 k l0 ((l1_3.length : Int) != (l1_2.length : Int)) a1_0 a1_1 l1_2 l1_3) else (spec_IsRack.j0 k l0 true a1_0 a1_1 l1_2 l1_3))) else (spec_IsRack.j0 k l0 true a1_0 a1_1 l1_2 l1_3))) else (spec_IsRack.j0 k l0 true a1_0 a1_1 l1_2 l1_3)) = some r := H
  have A5 := Aside0.mk A50
  clear A50
  by_cases c6 : t128 = true
  ·subst c6
   replace H : ((spec_l15Place.f a1_0 a1_1).bind fun t129 => (if t129 = true then ((spec_l01In.f (l1_2.length : Int) 1 12).bind fun t130 => (if t130 = true then (spec_IsRack.j0 k l0 ((l1_3.length : Int) != (l1_2.length : Int)) a1_0 a1_1 l1_2 l1_3) else (spec_IsRack.j0 k l0 true a1_0 a1_1 l1_2 l1_3))) else (spec_IsRack.j0 k l0 true a1_0 a1_1 l1_2 l1_3))) = some r := by rw [if_pos rfl] at H; exact H
   replace H := Option.bind_eq_some_iff.mp H
   obtain ⟨t129, A70, H⟩ := H
   replace H : (if t129 = true then ((spec_l01In.f (l1_2.length : Int) 1 12).bind fun t130 => (if t130 = true then (spec_IsRack.j0 k l0 ((l1_3.length : Int) != (l1_2.length : Int)) a1_0 a1_1 l1_2 l1_3) else (spec_IsRack.j0 k l0 true a1_0 a1_1 l1_2 l1_3))) else (spec_IsRack.j0 k l0 true a1_0 a1_1 l1_2 l1_3)) = some r := H
   have A7 := Aside0.mk A70
   clear A70
   by_cases c8 : t129 = true
   ·subst c8
    replace H : ((spec_l01In.f (l1_2.length : Int) 1 12).bind fun t130 => (if t130 = true then (spec_IsRack.j0 k l0 ((l1_3.length : Int) != (l1_2.length : Int)) a1_0 a1_1 l1_2 l1_3) else (spec_IsRack.j0 k l0 true a1_0 a1_1 l1_2 l1_3))) = some r := by rw [if_pos rfl] at H; exact H
    replace H := Option.bind_eq_some_iff.mp H
    obtain ⟨t130, A90, H⟩ := H
    replace H : (if t130 = true then (spec_IsRack.j0 k l0 ((l1_3.length : Int) != (l1_2.length : Int)) a1_0 a1_1 l1_2 l1_3) else (spec_IsRack.j0 k l0 true a1_0 a1_1 l1_2 l1_3)) = some r := H
    have A9 := Aside0.mk A90
    clear A90
    by_cases c10 : t130 = true
    ·subst c10
     replace H : (spec_IsRack.j0 k l0 ((l1_3.length : Int) != (l1_2.length : Int)) a1_0 a1_1 l1_2 l1_3) = some r := by rw [if_pos rfl] at H; exact H
     have H' := Aside0.mk H
     clear H
     go_wp2_with (first | ((with_reducible refine gate_callee (f := 162) rfl ?_); refine goesL_ (some 8) rfl rfl Try.func162 (by kernel_rfl) rfl #[.slice A0 l0.length c0] rfl ag_ ?_; (with_reducible refine (spec_AreArticles.calls k _ _ l0 true _ ?side1 ?side2 A5.out).mono ?_); (case side1 => exact r2_ HR0.out HB.out); (case side2 => exact HC0.out); rintro e w11 ⟨rfl, hb⟩; refine ⟨_, rfl, ?_⟩; replace BK127 := Aside0.mk (blk_below (g := gb127) (o := .cells #[.int .i64 a1_0, .int .i64 a1_1, .slice A1_2 l1_2.length c1_2, .slice A1_3 l1_3.length c1_3] 67 (0, 0)) (r1_ BK127.out) hb); replace HB := Aside0.mk (below_step (r0_ HB.out GE127.out) hb); (try clear hb); (try clear hb2); (try clear hk); (try clear hi); have hcz12_0 : w11.cell? ⟨gb127, 0, none⟩ = some (.int .i64 a1_0) := (blk_cell BK127.out 0).trans rfl; have hcz12_1 : w11.cell? ⟨gb127, 1, none⟩ = some (.int .i64 a1_1) := (blk_cell BK127.out 1).trans rfl; have hcz12_2 : w11.cell? ⟨gb127, 2, none⟩ = some (.slice A1_2 l1_2.length c1_2) := (blk_cell BK127.out 2).trans rfl; have hcz12_3 : w11.cell? ⟨gb127, 3, none⟩ = some (.slice A1_3 l1_3.length c1_3) := (blk_cell BK127.out 3).trans rfl; have hfz12_0 := blk_frozen BK127.out 0; have hfz12_1 := blk_frozen BK127.out 1; have hfz12_2 := blk_frozen BK127.out 2; have hfz12_3 := blk_frozen BK127.out 3) | (go_at_call 158; (with_reducible refine (spec_l15Place.calls a1_0 a1_1 true _ A7.out).mono ?_); rintro e w' ⟨rfl, ⟨nd, rfl⟩⟩) | (go_at_call 137; (with_reducible refine (spec_l01In.calls (l1_2.length : Int) 1 12 true _ A9.out).mono ?_); rintro e w' ⟨rfl, ⟨nd, rfl⟩⟩))
     go_meet
     case rel => exact ⟨_, (((l1_3.length : Int) != (l1_2.length : Int))), (by first | rfl | (simp; done) | (simp [*]; done)), H', ⟨by first | omega | exact Nat.le_refl _⟩, ⟨r1_ BK127.out⟩, ⟨r0_ HB.out GE127.out⟩⟩
    ·replace c10 := Bool.eq_false_iff.mpr c10
     subst c10
     replace H : (spec_IsRack.j0 k l0 true a1_0 a1_1 l1_2 l1_3) = some r := by rw [if_neg (show ¬ (false = true) by decide)] at H; exact H
     have H' := Aside0.mk H
     clear H
     go_wp2_with (first | ((with_reducible refine gate_callee (f := 162) rfl ?_); refine goesL_ (some 8) rfl rfl Try.func162 (by kernel_rfl) rfl #[.slice A0 l0.length c0] rfl ag_ ?_; (with_reducible refine (spec_AreArticles.calls k _ _ l0 true _ ?side1 ?side2 A5.out).mono ?_); (case side1 => exact r2_ HR0.out HB.out); (case side2 => exact HC0.out); rintro e w13 ⟨rfl, hb⟩; refine ⟨_, rfl, ?_⟩; replace BK127 := Aside0.mk (blk_below (g := gb127) (o := .cells #[.int .i64 a1_0, .int .i64 a1_1, .slice A1_2 l1_2.length c1_2, .slice A1_3 l1_3.length c1_3] 67 (0, 0)) (r1_ BK127.out) hb); replace HB := Aside0.mk (below_step (r0_ HB.out GE127.out) hb); (try clear hb); (try clear hb2); (try clear hk); (try clear hi); have hcz14_0 : w13.cell? ⟨gb127, 0, none⟩ = some (.int .i64 a1_0) := (blk_cell BK127.out 0).trans rfl; have hcz14_1 : w13.cell? ⟨gb127, 1, none⟩ = some (.int .i64 a1_1) := (blk_cell BK127.out 1).trans rfl; have hcz14_2 : w13.cell? ⟨gb127, 2, none⟩ = some (.slice A1_2 l1_2.length c1_2) := (blk_cell BK127.out 2).trans rfl; have hcz14_3 : w13.cell? ⟨gb127, 3, none⟩ = some (.slice A1_3 l1_3.length c1_3) := (blk_cell BK127.out 3).trans rfl; have hfz14_0 := blk_frozen BK127.out 0; have hfz14_1 := blk_frozen BK127.out 1; have hfz14_2 := blk_frozen BK127.out 2; have hfz14_3 := blk_frozen BK127.out 3) | (go_at_call 158; (with_reducible refine (spec_l15Place.calls a1_0 a1_1 true _ A7.out).mono ?_); rintro e w' ⟨rfl, ⟨nd, rfl⟩⟩) | (go_at_call 137; (with_reducible refine (spec_l01In.calls (l1_2.length : Int) 1 12 false _ A9.out).mono ?_); rintro e w' ⟨rfl, ⟨nd, rfl⟩⟩))
     go_meet
     case rel => exact ⟨_, (true), (by first | rfl | (simp; done) | (simp [*]; done)), H', ⟨by first | omega | exact Nat.le_refl _⟩, ⟨r1_ BK127.out⟩, ⟨r0_ HB.out GE127.out⟩⟩
   ·replace c8 := Bool.eq_false_iff.mpr c8
    subst c8
    replace H : (spec_IsRack.j0 k l0 true a1_0 a1_1 l1_2 l1_3) = some r := by rw [if_neg (show ¬ (false = true) by decide)] at H; exact H
    have H' := Aside0.mk H
    clear H
    go_wp2_with (first | ((with_reducible refine gate_callee (f := 162) rfl ?_); refine goesL_ (some 8) rfl rfl Try.func162 (by kernel_rfl) rfl #[.slice A0 l0.length c0] rfl ag_ ?_; (with_reducible refine (spec_AreArticles.calls k _ _ l0 true _ ?side1 ?side2 A5.out).mono ?_); (case side1 => exact r2_ HR0.out HB.out); (case side2 => exact HC0.out); rintro e w15 ⟨rfl, hb⟩; refine ⟨_, rfl, ?_⟩; replace BK127 := Aside0.mk (blk_below (g := gb127) (o := .cells #[.int .i64 a1_0, .int .i64 a1_1, .slice A1_2 l1_2.length c1_2, .slice A1_3 l1_3.length c1_3] 67 (0, 0)) (r1_ BK127.out) hb); replace HB := Aside0.mk (below_step (r0_ HB.out GE127.out) hb); (try clear hb); (try clear hb2); (try clear hk); (try clear hi); have hcz16_0 : w15.cell? ⟨gb127, 0, none⟩ = some (.int .i64 a1_0) := (blk_cell BK127.out 0).trans rfl; have hcz16_1 : w15.cell? ⟨gb127, 1, none⟩ = some (.int .i64 a1_1) := (blk_cell BK127.out 1).trans rfl; have hcz16_2 : w15.cell? ⟨gb127, 2, none⟩ = some (.slice A1_2 l1_2.length c1_2) := (blk_cell BK127.out 2).trans rfl; have hcz16_3 : w15.cell? ⟨gb127, 3, none⟩ = some (.slice A1_3 l1_3.length c1_3) := (blk_cell BK127.out 3).trans rfl; have hfz16_0 := blk_frozen BK127.out 0; have hfz16_1 := blk_frozen BK127.out 1; have hfz16_2 := blk_frozen BK127.out 2; have hfz16_3 := blk_frozen BK127.out 3) | (go_at_call 158; (with_reducible refine (spec_l15Place.calls a1_0 a1_1 false _ A7.out).mono ?_); rintro e w' ⟨rfl, ⟨nd, rfl⟩⟩))
    go_meet
    case rel => exact ⟨_, (true), (by first | rfl | (simp; done) | (simp [*]; done)), H', ⟨by first | omega | exact Nat.le_refl _⟩, ⟨r1_ BK127.out⟩, ⟨r0_ HB.out GE127.out⟩⟩
  ·replace c6 := Bool.eq_false_iff.mpr c6
   subst c6
   replace H : (spec_IsRack.j0 k l0 true a1_0 a1_1 l1_2 l1_3) = some r := by rw [if_neg (show ¬ (false = true) by decide)] at H; exact H
   have H' := Aside0.mk H
   clear H
   go_wp2_with (first | ((with_reducible refine gate_callee (f := 162) rfl ?_); refine goesL_ (some 8) rfl rfl Try.func162 (by kernel_rfl) rfl #[.slice A0 l0.length c0] rfl ag_ ?_; (with_reducible refine (spec_AreArticles.calls k _ _ l0 false _ ?side1 ?side2 A5.out).mono ?_); (case side1 => exact r2_ HR0.out HB.out); (case side2 => exact HC0.out); rintro e w17 ⟨rfl, hb⟩; refine ⟨_, rfl, ?_⟩; replace BK127 := Aside0.mk (blk_below (g := gb127) (o := .cells #[.int .i64 a1_0, .int .i64 a1_1, .slice A1_2 l1_2.length c1_2, .slice A1_3 l1_3.length c1_3] 67 (0, 0)) (r1_ BK127.out) hb); replace HB := Aside0.mk (below_step (r0_ HB.out GE127.out) hb); (try clear hb); (try clear hb2); (try clear hk); (try clear hi)))
   go_meet
   case rel => exact ⟨_, (true), (by first | rfl | (simp; done) | (simp [*]; done)), H', ⟨by first | omega | exact Nat.le_refl _⟩, ⟨r1_ BK127.out⟩, ⟨r0_ HB.out GE127.out⟩⟩
 case rest =>
  clear HC3
  try clear c1
  try clear p2
  try clear c6
  try clear c8
  try clear c10
  try clear c14
  try clear c16
  try clear hcz12_0
  try clear hcz12_1
  try clear hcz12_2
  try clear hcz12_3
  try clear hcz14_0
  try clear hcz14_1
  try clear hcz14_2
  try clear hcz14_3
  try clear hcz16_0
  try clear hcz16_1
  try clear hcz16_2
  try clear hcz16_3
  try clear hfz12_0
  try clear hfz12_1
  try clear hfz12_2
  try clear hfz12_3
  try clear hfz14_0
  try clear hfz14_1
  try clear hfz14_2
  try clear hfz14_3
  try clear hfz16_0
  try clear hfz16_1
  try clear hfz16_2
  try clear hfz16_3
  obtain ⟨kq, x33_2, rfl, HA, HJ2, BK127, HB⟩ := hcut
  cases kq with
  | zero => exact absurd HA.out (by simp [spec_IsRack.j0])
  | succ kj2 =>
   have H := HA.out
   clear HA
   simp only [spec_IsRack.j0] at H
   by_cases c18 : x33_2 = true
   ·subst c18
    replace H : (some false) = some r := by rw [if_pos rfl] at H; exact H
    obtain rfl := Option.some.inj H
    go_wp2
    go_ret
    exact ⟨by first | rfl | (simp [errW_none, errW_some] <;> rfl) | (simp [*, errW_none, errW_some] <;> rfl), r0_ HB.out GE127.out⟩
   ·replace c18 := Bool.eq_false_iff.mpr c18
    subst c18
    replace H : (spec_IsRack.l0 kj2 l0 0 a1_0 a1_1 l1_2 l1_3) = some r := by rw [if_neg (show ¬ (false = true) by decide)] at H; exact H
    have H' := Aside0.mk H
    clear H
    go_wp2
    go_loopg [5] kj2 (fun kq v5 w' => ∃ (x5_2 : Int), v5 = .int .i64 x5_2 ∧ Aside0 (spec_IsRack.l0 kq l0 x5_2 a1_0 a1_1 l1_2 l1_3 = some r) ∧ Aside0 (kq ≤ kj2) ∧ Aside0 (w'.heap[gb127]? = some (.cells #[.int .i64 a1_0, .int .i64 a1_1, (.slice A1_2 l1_2.length c1_2), (.slice A1_3 l1_3.length c1_3)] 67 (0, 0))) ∧ Aside0 (Below w.heap.size w w'))
    case atStart => exact ⟨(0), (by first | rfl | (simp; done) | (simp [*]; done)), H', ⟨Nat.le_refl _⟩, ⟨r1_ BK127.out⟩, ⟨r0_ HB.out GE127.out⟩⟩
    case round =>
     clear H'
     try clear c1
     try clear p2
     try clear c6
     try clear c8
     try clear c10
     try clear c14
     try clear c16
     try clear c18
     try clear hcz12_0
     try clear hcz12_1
     try clear hcz12_2
     try clear hcz12_3
     try clear hcz14_0
     try clear hcz14_1
     try clear hcz14_2
     try clear hcz14_3
     try clear hcz16_0
     try clear hcz16_1
     try clear hcz16_2
     try clear hcz16_3
     try clear hfz12_0
     try clear hfz12_1
     try clear hfz12_2
     try clear hfz12_3
     try clear hfz14_0
     try clear hfz14_1
     try clear hfz14_2
     try clear hfz14_3
     try clear hfz16_0
     try clear hfz16_1
     try clear hfz16_2
     try clear hfz16_3
     try clear p2
     obtain ⟨x5_2, rfl, HA, HK2, BK127, HB⟩ := hrel
     cases gk with
     | zero => exact absurd HA.out (by simp [spec_IsRack.l0])
     | succ k2 =>
      have H := HA.out
      clear HA
      simp only [spec_IsRack.l0] at H
      by_cases c19 : x5_2 < (l1_2.length : Int)
      ·rw [if_pos c19] at H
       have c19b0 : decide (x5_2 < (l1_2.length : Int)) = true := decide_eq_true c19
       clear c19
       by_cases c20 : 0 ≤ x5_2
       case neg =>
        rw [if_neg c20] at H
        exact absurd H (by simp)
       rw [if_pos c20] at H
       have c20b0 : decide (0 ≤ x5_2) = true := decide_eq_true c20
       clear c20
       by_cases c21 : x5_2 < (l1_3.length : Int)
       case neg =>
        rw [if_neg c21] at H
        exact absurd H (by simp)
       rw [if_pos c21] at H
       have c21b0 : decide (x5_2 < (l1_3.length : Int)) = true := decide_eq_true c21
       clear c21
       replace H := Option.bind_eq_some_iff.mp H
       obtain ⟨t132, A220, H⟩ := H
       replace H : ((spec_l01In.f (rd l1_2 x5_2) 20 300).bind fun t134 => (if t134 = true then (if (rdOf ByteArray.empty l1_3 x5_2).toList = ([] : List UInt8) then (spec_IsRack.l0 k2 l0 (wrap64 (x5_2 + 1)) a1_0 a1_1 l1_2 l1_3) else (if t132 < 0 then (some false) else (if 0 ≤ t132 then (if t132 < (l0.length : Int) then ((spec_l17Fits.f ((rd_T130 l0 t132).f0) ((rd_T130 l0 t132).f1) ((rd_T130 l0 t132).f2) ((rd_T130 l0 t132).f3) ((rd_T130 l0 t132).f4) ((rd_T130 l0 t132).f5) ((rd_T130 l0 t132).f6) ((rd_T130 l0 t132).f7) ((rd_T130 l0 t132).f8) (rd l1_2 x5_2)).bind fun t138 => (if t138 = true then (spec_IsRack.l0 k2 l0 (wrap64 (x5_2 + 1)) a1_0 a1_1 l1_2 l1_3) else (some false))) else (none)) else (none)))) else (some false))) = some r := H
       have A22 := Aside0.mk A220
       clear A220
       replace H := Option.bind_eq_some_iff.mp H
       obtain ⟨t134, A230, H⟩ := H
       replace H : (if t134 = true then (if (rdOf ByteArray.empty l1_3 x5_2).toList = ([] : List UInt8) then (spec_IsRack.l0 k2 l0 (wrap64 (x5_2 + 1)) a1_0 a1_1 l1_2 l1_3) else (if t132 < 0 then (some false) else (if 0 ≤ t132 then (if t132 < (l0.length : Int) then ((spec_l17Fits.f ((rd_T130 l0 t132).f0) ((rd_T130 l0 t132).f1) ((rd_T130 l0 t132).f2) ((rd_T130 l0 t132).f3) ((rd_T130 l0 t132).f4) ((rd_T130 l0 t132).f5) ((rd_T130 l0 t132).f6) ((rd_T130 l0 t132).f7) ((rd_T130 l0 t132).f8) (rd l1_2 x5_2)).bind fun t138 => (if t138 = true then (spec_IsRack.l0 k2 l0 (wrap64 (x5_2 + 1)) a1_0 a1_1 l1_2 l1_3) else (some false))) else (none)) else (none)))) else (some false)) = some r := H
       have A23 := Aside0.mk A230
       clear A230
       by_cases c24 : t134 = true
       ·subst c24
        replace H : (if (rdOf ByteArray.empty l1_3 x5_2).toList = ([] : List UInt8) then (spec_IsRack.l0 k2 l0 (wrap64 (x5_2 + 1)) a1_0 a1_1 l1_2 l1_3) else (if t132 < 0 then (some false) else (if 0 ≤ t132 then (if t132 < (l0.length : Int) then ((spec_l17Fits.f ((rd_T130 l0 t132).f0) ((rd_T130 l0 t132).f1) ((rd_T130 l0 t132).f2) ((rd_T130 l0 t132).f3) ((rd_T130 l0 t132).f4) ((rd_T130 l0 t132).f5) ((rd_T130 l0 t132).f6) ((rd_T130 l0 t132).f7) ((rd_T130 l0 t132).f8) (rd l1_2 x5_2)).bind fun t138 => (if t138 = true then (spec_IsRack.l0 k2 l0 (wrap64 (x5_2 + 1)) a1_0 a1_1 l1_2 l1_3) else (some false))) else (none)) else (none)))) = some r := by rw [if_pos rfl] at H; exact H
        by_cases c25 : (rdOf ByteArray.empty l1_3 x5_2).toList = ([] : List UInt8)
        ·rw [if_pos c25] at H
         have c25b0 : ((rdOf ByteArray.empty l1_3 x5_2).toList == ([] : List UInt8)) = true := beq_iff_eq.mpr c25
         have c25b1 : ((rdOf ByteArray.empty l1_3 x5_2).toList != ([] : List UInt8)) = false := bne_eq_false_iff_eq.mpr c25
         clear c25
         have H' := Aside0.mk H
         clear H
         have hcz26_0 : wr.cell? ⟨gb127, 0, none⟩ = some (.int .i64 a1_0) := (blk_cell BK127.out 0).trans rfl
         have hcz26_1 : wr.cell? ⟨gb127, 1, none⟩ = some (.int .i64 a1_1) := (blk_cell BK127.out 1).trans rfl
         have hcz26_2 : wr.cell? ⟨gb127, 2, none⟩ = some (.slice A1_2 l1_2.length c1_2) := (blk_cell BK127.out 2).trans rfl
         have hcz26_3 : wr.cell? ⟨gb127, 3, none⟩ = some (.slice A1_3 l1_3.length c1_3) := (blk_cell BK127.out 3).trans rfl
         have hfz26_0 := blk_frozen BK127.out 0
         have hfz26_1 := blk_frozen BK127.out 1
         have hfz26_2 := blk_frozen BK127.out 2
         have hfz26_3 := blk_frozen BK127.out 3
         have p131 : 0 ≤ (x5_2 : Int) := od_
         have q131 : x5_2 < (l1_3.length : Int) := od_
         obtain ⟨ad131, e131, hx131_0⟩ := Kd.at_string HR1_3.out x5_2 p131 q131
         cases e131
         replace hx131_0 := bc_ HB.out hx131_0
         replace p131 := eq_true p131
         replace q131 := eq_true q131
         try go_wp2_with (first | ((with_reducible refine gate_callee (f := 103) rfl ?_); refine goesL_ (some 47) rfl rfl Try.func103 (by kernel_rfl) rfl #[.slice A0 l0.length c0, .string (rdOf ByteArray.empty l1_3 x5_2)] rfl ag_ ?_; (with_reducible refine (spec_l03Find.calls k2 _ _ l0 (rdOf ByteArray.empty l1_3 x5_2) t132 _ ?side1 ?side2 A22.out).mono ?_); (case side1 => exact r2_ HR0.out HB.out); (case side2 => exact HC0.out); rintro e w' ⟨rfl, ⟨nd, rfl⟩⟩; refine ⟨_, rfl, ?_⟩))
         (try (rw [drewN_self wr]; generalize hq_ : World.drewN wr _ = wr; have n0_ : Aside0 (wr.heap[gb127]? = some (.cells #[.int .i64 a1_0, .int .i64 a1_1, .slice A1_2 l1_2.length c1_2, .slice (some ad131) l1_3.length c1_3] 67 (0, 0))) := ⟨by rw [← hq_]; exact (r1_ BK127.out)⟩; have n1_ : Aside0 (Below w.heap.size w wr) := ⟨by rw [← hq_]; exact (r0_ HB.out GE127.out)⟩; clear BK127 HB hq_; have BK127 := n0_; have HB := n1_; clear n0_ n1_))
         replace BK127 := Aside0.mk (blk_drew BK127.out)
         replace HB := Aside0.mk (below_drew1 HB.out)
         have p133 : 0 ≤ (x5_2 : Int) := od_
         have q133 : x5_2 < (l1_2.length : Int) := od_
         obtain ⟨ad133, e133, hx133_0⟩ := Kd.at_int HR1_2.out x5_2 p133 q133
         have hw133_0 := hx133_0
         cases e133
         replace hx133_0 := bc_ HB.out hx133_0
         replace p133 := eq_true p133
         replace q133 := eq_true q133
         have p135 : 0 ≤ (x5_2 : Int) := od_
         have q135 : x5_2 < (l1_3.length : Int) := od_
         obtain ⟨ad135, e135, hx135_0⟩ := Kd.at_string HR1_3.out x5_2 p135 q135
         have hw135_0 := hx135_0
         obtain rfl : ad131 = ad135 := (by injection e135)
         replace hx135_0 := bc_ HB.out hx135_0
         replace p135 := eq_true p135
         replace q135 := eq_true q135
         refine start_ (n := 32) (S := fun w' => w'.cell? ⟨gb127, 0, none⟩ = some (.int .i64 a1_0) ∧ w'.cell? ⟨gb127, 1, none⟩ = some (.int .i64 a1_1) ∧ w'.cell? ⟨gb127, 2, none⟩ = some (.slice (some ad133) l1_2.length c1_2) ∧ w'.cell? ⟨gb127, 3, none⟩ = some (.slice (some ad131) l1_3.length c1_3) ∧ w'.cell? (ad133.add (x5_2).toNat) = some (.int .i64 (rd l1_2 x5_2)) ∧ w'.cell? (ad131.add (x5_2).toNat) = some (.string (rdOf ByteArray.empty l1_3 x5_2))) (ds := []) #[f_,f_,f_,f_,f_,f_,f_,f_,f_,f_,f_,f_,f_,f_,f_,f_,f_,f_,f_,f_,f_,f_,f_,f_,f_,f_,f_,f_,f_,f_,f_,f_] (by kernel_rfl) rfl rfl ⟨(blk_cell BK127.out 0).trans rfl, (blk_cell BK127.out 1).trans rfl, (blk_cell BK127.out 2).trans rfl, (blk_cell BK127.out 3).trans rfl, (bc_ HB.out hw133_0 :), (bc_ HB.out hw135_0 :)⟩ (fun hHeld => ?_); refine with_tabW spec_IsRack.tab7 spec_IsRack.bits7 (fun HT_ HW_ => ?_)
         generalize wr.drew = w27 at BK127 HB hx133_0 hx135_0 hHeld ⊢
         refine pu_ 0 48 #[t_,f_,f_,f_,f_,f_,f_,f_,f_,f_,f_,f_,f_,f_,f_,f_,f_,f_,f_,f_,f_,f_,f_,f_,f_,f_,f_,f_,f_,f_,f_,f_] HT_.out ?_
         refine pu_ 2 50 #[t_,f_,t_,f_,f_,f_,f_,f_,f_,f_,f_,f_,f_,f_,f_,f_,f_,f_,f_,f_,f_,f_,f_,f_,f_,f_,f_,f_,f_,f_,f_,f_] HT_.out ?_
         refine take_ (i := 1) (N := some 49) (v := ?_) (a' := ?_) #[t_,t_,t_,f_,f_,f_,f_,f_,f_,f_,f_,f_,f_,f_,f_,f_,f_,f_,f_,f_,f_,f_,f_,f_,f_,f_,f_,f_,f_,f_,f_,f_] rfl rfl (take_ofW HT_.out HW_.out (by kernel_rfl)) (fun _ _ _ h => h) (Or.inl ⟨by rfl, ?_⟩) hHeld ?_ ?_
         rotate_left
         ·rintro w' ⟨s0, s1, s2, s3, s4, s5⟩
          go_simp
          with_reducible rfl
         rotate_left
         ·simp only [pz_]
          rfl
         refine pu_ 3 51 #[t_,t_,t_,t_,f_,f_,f_,f_,f_,f_,f_,f_,f_,f_,f_,f_,f_,f_,f_,f_,f_,f_,f_,f_,f_,f_,f_,f_,f_,f_,f_,f_] HT_.out ?_
         refine take_ (i := 4) (N := some 52) (v := ?_) (a' := ?_) #[t_,t_,t_,t_,t_,f_,f_,f_,f_,f_,f_,f_,f_,f_,f_,f_,f_,f_,f_,f_,f_,f_,f_,f_,f_,f_,f_,f_,f_,f_,f_,f_] rfl rfl (take_ofW HT_.out HW_.out (by kernel_rfl)) (fun _ _ _ h => h) (Or.inl ⟨by rfl, ?_⟩) hHeld ?_ ?_
         rotate_left
         ·rintro w' ⟨s0, s1, s2, s3, s4, s5⟩
          go_simp
          with_reducible rfl
         rotate_left
         ·simp only [pz_]
          rfl
         refine one_ (i := 5) (N := some 53) #[t_,t_,t_,t_,t_,t_,f_,f_,f_,f_,f_,f_,f_,f_,f_,f_,f_,f_,f_,f_,f_,f_,f_,f_,f_,f_,f_,f_,f_,f_,f_,f_] rfl rfl (one_of HT_.out (by kernel_rfl)) (by decide) (fun K hK => ?_)
         refine goes_ Try.func137 (by kernel_rfl) rfl #[.int .i64 (rd l1_2 x5_2), .int .i64 20, .int .i64 300] (by rfl) rfl rfl ag_ ?_
         with_reducible refine (spec_l01In.calls (rd l1_2 x5_2) 20 300 true _ A23.out).mono ?_
         rintro e w' ⟨rfl, ⟨nd, rfl⟩⟩
         refine ⟨_, rfl, ?_⟩
         refine hK.out _ _ ⟨(blk_cell BK127.out 0).trans rfl, (blk_cell BK127.out 1).trans rfl, (blk_cell BK127.out 2).trans rfl, (blk_cell BK127.out 3).trans rfl, (bc_ HB.out hw133_0 :), (bc_ HB.out hw135_0 :)⟩ (fun hHeld => ?_)
         clear hK K
         refine norm_ (a' := ?_) ?_ ?_
         rotate_left
         ·show Act.put _ (some 53) _ = _
          simp only [pz_]
          rfl
         refine pu_ 6 54 #[t_,t_,t_,t_,t_,t_,t_,f_,f_,f_,f_,f_,f_,f_,f_,f_,f_,f_,f_,f_,f_,f_,f_,f_,f_,f_,f_,f_,f_,f_,f_,f_] HT_.out ?_
         refine pu_ 7 55 #[t_,t_,t_,t_,t_,t_,t_,t_,f_,f_,f_,f_,f_,f_,f_,f_,f_,f_,f_,f_,f_,f_,f_,f_,f_,f_,f_,f_,f_,f_,f_,f_] HT_.out ?_
         refine pu_ 8 56 #[t_,t_,t_,t_,t_,t_,t_,t_,t_,f_,f_,f_,f_,f_,f_,f_,f_,f_,f_,f_,f_,f_,f_,f_,f_,f_,f_,f_,f_,f_,f_,f_] HT_.out ?_
         refine pu_ 10 58 #[t_,t_,t_,t_,t_,t_,t_,t_,t_,f_,t_,f_,f_,f_,f_,f_,f_,f_,f_,f_,f_,f_,f_,f_,f_,f_,f_,f_,f_,f_,f_,f_] HT_.out ?_
         refine take_ (i := 9) (N := some 57) (v := ?_) (a' := ?_) #[t_,t_,t_,t_,t_,t_,t_,t_,t_,t_,t_,f_,f_,f_,f_,f_,f_,f_,f_,f_,f_,f_,f_,f_,f_,f_,f_,f_,f_,f_,f_,f_] rfl rfl (take_ofW HT_.out HW_.out (by kernel_rfl)) (fun _ _ _ h => h) (Or.inl ⟨by rfl, ?_⟩) hHeld ?_ ?_
         rotate_left
         ·rintro w' ⟨s0, s1, s2, s3, s4, s5⟩
          go_simp
          with_reducible rfl
         rotate_left
         ·simp only [pz_]
          rfl
         refine pu_ 11 59 #[t_,t_,t_,t_,t_,t_,t_,t_,t_,t_,t_,t_,f_,f_,f_,f_,f_,f_,f_,f_,f_,f_,f_,f_,f_,f_,f_,f_,f_,f_,f_,f_] HT_.out ?_
         refine take_ (i := 12) (N := some 60) (v := ?_) (a' := ?_) #[t_,t_,t_,t_,t_,t_,t_,t_,t_,t_,t_,t_,t_,f_,f_,f_,f_,f_,f_,f_,f_,f_,f_,f_,f_,f_,f_,f_,f_,f_,f_,f_] rfl rfl (take_ofW HT_.out HW_.out (by kernel_rfl)) (fun _ _ _ h => h) (Or.inl ⟨by rfl, ?_⟩) hHeld ?_ ?_
         rotate_left
         ·rintro w' ⟨s0, s1, s2, s3, s4, s5⟩
          go_simp
          with_reducible rfl
         rotate_left
         ·simp only [pz_]
          rfl
         refine pu_ 13 61 #[t_,t_,t_,t_,t_,t_,t_,t_,t_,t_,t_,t_,t_,t_,f_,f_,f_,f_,f_,f_,f_,f_,f_,f_,f_,f_,f_,f_,f_,f_,f_,f_] HT_.out ?_
         refine pu_ 14 62 #[t_,t_,t_,t_,t_,t_,t_,t_,t_,t_,t_,t_,t_,t_,t_,f_,f_,f_,f_,f_,f_,f_,f_,f_,f_,f_,f_,f_,f_,f_,f_,f_] HT_.out ?_
         refine un_ 15 63 #[t_,t_,t_,t_,t_,t_,t_,t_,t_,t_,t_,t_,t_,t_,t_,t_,f_,f_,f_,f_,f_,f_,f_,f_,f_,f_,f_,f_,f_,f_,f_,f_] HT_.out ?_
         refine un_ 16 64 #[t_,t_,t_,t_,t_,t_,t_,t_,t_,t_,t_,t_,t_,t_,t_,t_,t_,f_,f_,f_,f_,f_,f_,f_,f_,f_,f_,f_,f_,f_,f_,f_] HT_.out ?_
         refine un_ 17 65 #[t_,t_,t_,t_,t_,t_,t_,t_,t_,t_,t_,t_,t_,t_,t_,t_,t_,t_,f_,f_,f_,f_,f_,f_,f_,f_,f_,f_,f_,f_,f_,f_] HT_.out ?_
         refine un_ 18 66 #[t_,t_,t_,t_,t_,t_,t_,t_,t_,t_,t_,t_,t_,t_,t_,t_,t_,t_,t_,f_,f_,f_,f_,f_,f_,f_,f_,f_,f_,f_,f_,f_] HT_.out ?_
         refine un_ 19 67 #[t_,t_,t_,t_,t_,t_,t_,t_,t_,t_,t_,t_,t_,t_,t_,t_,t_,t_,t_,t_,f_,f_,f_,f_,f_,f_,f_,f_,f_,f_,f_,f_] HT_.out ?_
         refine un_ 20 68 #[t_,t_,t_,t_,t_,t_,t_,t_,t_,t_,t_,t_,t_,t_,t_,t_,t_,t_,t_,t_,t_,f_,f_,f_,f_,f_,f_,f_,f_,f_,f_,f_] HT_.out ?_
         refine un_ 21 69 #[t_,t_,t_,t_,t_,t_,t_,t_,t_,t_,t_,t_,t_,t_,t_,t_,t_,t_,t_,t_,t_,t_,f_,f_,f_,f_,f_,f_,f_,f_,f_,f_] HT_.out ?_
         refine un_ 22 70 #[t_,t_,t_,t_,t_,t_,t_,t_,t_,t_,t_,t_,t_,t_,t_,t_,t_,t_,t_,t_,t_,t_,t_,f_,f_,f_,f_,f_,f_,f_,f_,f_] HT_.out ?_
         refine un_ 23 71 #[t_,t_,t_,t_,t_,t_,t_,t_,t_,t_,t_,t_,t_,t_,t_,t_,t_,t_,t_,t_,t_,t_,t_,t_,f_,f_,f_,f_,f_,f_,f_,f_] HT_.out ?_
         refine un_ 24 72 #[t_,t_,t_,t_,t_,t_,t_,t_,t_,t_,t_,t_,t_,t_,t_,t_,t_,t_,t_,t_,t_,t_,t_,t_,t_,f_,f_,f_,f_,f_,f_,f_] HT_.out ?_
         refine un_ 25 73 #[t_,t_,t_,t_,t_,t_,t_,t_,t_,t_,t_,t_,t_,t_,t_,t_,t_,t_,t_,t_,t_,t_,t_,t_,t_,t_,f_,f_,f_,f_,f_,f_] HT_.out ?_
         refine un_ 26 74 #[t_,t_,t_,t_,t_,t_,t_,t_,t_,t_,t_,t_,t_,t_,t_,t_,t_,t_,t_,t_,t_,t_,t_,t_,t_,t_,t_,f_,f_,f_,f_,f_] HT_.out ?_
         refine un_ 27 75 #[t_,t_,t_,t_,t_,t_,t_,t_,t_,t_,t_,t_,t_,t_,t_,t_,t_,t_,t_,t_,t_,t_,t_,t_,t_,t_,t_,t_,f_,f_,f_,f_] HT_.out ?_
         refine un_ 28 76 #[t_,t_,t_,t_,t_,t_,t_,t_,t_,t_,t_,t_,t_,t_,t_,t_,t_,t_,t_,t_,t_,t_,t_,t_,t_,t_,t_,t_,t_,f_,f_,f_] HT_.out ?_
         refine un_ 29 77 #[t_,t_,t_,t_,t_,t_,t_,t_,t_,t_,t_,t_,t_,t_,t_,t_,t_,t_,t_,t_,t_,t_,t_,t_,t_,t_,t_,t_,t_,t_,f_,f_] HT_.out ?_
         refine pu_ 30 78 #[t_,t_,t_,t_,t_,t_,t_,t_,t_,t_,t_,t_,t_,t_,t_,t_,t_,t_,t_,t_,t_,t_,t_,t_,t_,t_,t_,t_,t_,t_,t_,f_] HT_.out ?_
         refine pu_ 31 79 #[t_,t_,t_,t_,t_,t_,t_,t_,t_,t_,t_,t_,t_,t_,t_,t_,t_,t_,t_,t_,t_,t_,t_,t_,t_,t_,t_,t_,t_,t_,t_,t_] HT_.out ?_
         refine done_ (done_of HT_.out (by kernel_rfl)) ?_
         try go_wp2
         go_roundg k2
         case measure => have := HJ2.out; have := HK2.out; omega
         case rel => exact ⟨(wrap64 (x5_2 + 1)), (by first | rfl | (simp; done) | (simp [*]; done)), H', ⟨by have := HJ2.out; have := HK2.out; omega⟩, ⟨r1_ BK127.out⟩, ⟨r0_ HB.out GE127.out⟩⟩
        ·rw [if_neg c25] at H
         have c25b0 : ((rdOf ByteArray.empty l1_3 x5_2).toList == ([] : List UInt8)) = false := beq_eq_false_iff_ne.mpr c25
         have c25b1 : ((rdOf ByteArray.empty l1_3 x5_2).toList != ([] : List UInt8)) = true := bne_iff_ne.mpr c25
         by_cases c28 : t132 < 0
         ·rw [if_pos c28] at H
          have c28b0 : decide (t132 < 0) = true := decide_eq_true c28
          clear c28
          obtain rfl := Option.some.inj H
          have hcz29_0 : wr.cell? ⟨gb127, 0, none⟩ = some (.int .i64 a1_0) := (blk_cell BK127.out 0).trans rfl
          have hcz29_1 : wr.cell? ⟨gb127, 1, none⟩ = some (.int .i64 a1_1) := (blk_cell BK127.out 1).trans rfl
          have hcz29_2 : wr.cell? ⟨gb127, 2, none⟩ = some (.slice A1_2 l1_2.length c1_2) := (blk_cell BK127.out 2).trans rfl
          have hcz29_3 : wr.cell? ⟨gb127, 3, none⟩ = some (.slice A1_3 l1_3.length c1_3) := (blk_cell BK127.out 3).trans rfl
          have hfz29_0 := blk_frozen BK127.out 0
          have hfz29_1 := blk_frozen BK127.out 1
          have hfz29_2 := blk_frozen BK127.out 2
          have hfz29_3 := blk_frozen BK127.out 3
          have p131 : 0 ≤ (x5_2 : Int) := od_
          have q131 : x5_2 < (l1_3.length : Int) := od_
          obtain ⟨ad131, e131, hx131_0⟩ := Kd.at_string HR1_3.out x5_2 p131 q131
          cases e131
          replace hx131_0 := bc_ HB.out hx131_0
          replace p131 := eq_true p131
          replace q131 := eq_true q131
          try go_wp2_with (first | ((with_reducible refine gate_callee (f := 103) rfl ?_); refine goesL_ (some 47) rfl rfl Try.func103 (by kernel_rfl) rfl #[.slice A0 l0.length c0, .string (rdOf ByteArray.empty l1_3 x5_2)] rfl ag_ ?_; (with_reducible refine (spec_l03Find.calls k2 _ _ l0 (rdOf ByteArray.empty l1_3 x5_2) t132 _ ?side1 ?side2 A22.out).mono ?_); (case side1 => exact r2_ HR0.out HB.out); (case side2 => exact HC0.out); rintro e w' ⟨rfl, ⟨nd, rfl⟩⟩; refine ⟨_, rfl, ?_⟩))
          (try (rw [drewN_self wr]; generalize hq_ : World.drewN wr _ = wr; have n0_ : Aside0 (wr.heap[gb127]? = some (.cells #[.int .i64 a1_0, .int .i64 a1_1, .slice A1_2 l1_2.length c1_2, .slice (some ad131) l1_3.length c1_3] 67 (0, 0))) := ⟨by rw [← hq_]; exact (r1_ BK127.out)⟩; have n1_ : Aside0 (Below w.heap.size w wr) := ⟨by rw [← hq_]; exact (r0_ HB.out GE127.out)⟩; clear BK127 HB hq_; have BK127 := n0_; have HB := n1_; clear n0_ n1_))
          replace BK127 := Aside0.mk (blk_drew BK127.out)
          replace HB := Aside0.mk (below_drew1 HB.out)
          have p133 : 0 ≤ (x5_2 : Int) := od_
          have q133 : x5_2 < (l1_2.length : Int) := od_
          obtain ⟨ad133, e133, hx133_0⟩ := Kd.at_int HR1_2.out x5_2 p133 q133
          have hw133_0 := hx133_0
          cases e133
          replace hx133_0 := bc_ HB.out hx133_0
          replace p133 := eq_true p133
          replace q133 := eq_true q133
          have p135 : 0 ≤ (x5_2 : Int) := od_
          have q135 : x5_2 < (l1_3.length : Int) := od_
          obtain ⟨ad135, e135, hx135_0⟩ := Kd.at_string HR1_3.out x5_2 p135 q135
          have hw135_0 := hx135_0
          obtain rfl : ad131 = ad135 := (by injection e135)
          replace hx135_0 := bc_ HB.out hx135_0
          replace p135 := eq_true p135
          replace q135 := eq_true q135
          refine start_ (n := 32) (S := fun w' => w'.cell? ⟨gb127, 0, none⟩ = some (.int .i64 a1_0) ∧ w'.cell? ⟨gb127, 1, none⟩ = some (.int .i64 a1_1) ∧ w'.cell? ⟨gb127, 2, none⟩ = some (.slice (some ad133) l1_2.length c1_2) ∧ w'.cell? ⟨gb127, 3, none⟩ = some (.slice (some ad131) l1_3.length c1_3) ∧ w'.cell? (ad133.add (x5_2).toNat) = some (.int .i64 (rd l1_2 x5_2)) ∧ w'.cell? (ad131.add (x5_2).toNat) = some (.string (rdOf ByteArray.empty l1_3 x5_2))) (ds := []) #[f_,f_,f_,f_,f_,f_,f_,f_,f_,f_,f_,f_,f_,f_,f_,f_,f_,f_,f_,f_,f_,f_,f_,f_,f_,f_,f_,f_,f_,f_,f_,f_] (by kernel_rfl) rfl rfl ⟨(blk_cell BK127.out 0).trans rfl, (blk_cell BK127.out 1).trans rfl, (blk_cell BK127.out 2).trans rfl, (blk_cell BK127.out 3).trans rfl, (bc_ HB.out hw133_0 :), (bc_ HB.out hw135_0 :)⟩ (fun hHeld => ?_); refine with_tabW spec_IsRack.tab7 spec_IsRack.bits7 (fun HT_ HW_ => ?_)
          generalize wr.drew = w30 at BK127 HB hx133_0 hx135_0 hHeld ⊢
          refine pu_ 0 48 #[t_,f_,f_,f_,f_,f_,f_,f_,f_,f_,f_,f_,f_,f_,f_,f_,f_,f_,f_,f_,f_,f_,f_,f_,f_,f_,f_,f_,f_,f_,f_,f_] HT_.out ?_
          refine pu_ 2 50 #[t_,f_,t_,f_,f_,f_,f_,f_,f_,f_,f_,f_,f_,f_,f_,f_,f_,f_,f_,f_,f_,f_,f_,f_,f_,f_,f_,f_,f_,f_,f_,f_] HT_.out ?_
          refine take_ (i := 1) (N := some 49) (v := ?_) (a' := ?_) #[t_,t_,t_,f_,f_,f_,f_,f_,f_,f_,f_,f_,f_,f_,f_,f_,f_,f_,f_,f_,f_,f_,f_,f_,f_,f_,f_,f_,f_,f_,f_,f_] rfl rfl (take_ofW HT_.out HW_.out (by kernel_rfl)) (fun _ _ _ h => h) (Or.inl ⟨by rfl, ?_⟩) hHeld ?_ ?_
          rotate_left
          ·rintro w' ⟨s0, s1, s2, s3, s4, s5⟩
           go_simp
           with_reducible rfl
          rotate_left
          ·simp only [pz_]
           rfl
          refine pu_ 3 51 #[t_,t_,t_,t_,f_,f_,f_,f_,f_,f_,f_,f_,f_,f_,f_,f_,f_,f_,f_,f_,f_,f_,f_,f_,f_,f_,f_,f_,f_,f_,f_,f_] HT_.out ?_
          refine take_ (i := 4) (N := some 52) (v := ?_) (a' := ?_) #[t_,t_,t_,t_,t_,f_,f_,f_,f_,f_,f_,f_,f_,f_,f_,f_,f_,f_,f_,f_,f_,f_,f_,f_,f_,f_,f_,f_,f_,f_,f_,f_] rfl rfl (take_ofW HT_.out HW_.out (by kernel_rfl)) (fun _ _ _ h => h) (Or.inl ⟨by rfl, ?_⟩) hHeld ?_ ?_
          rotate_left
          ·rintro w' ⟨s0, s1, s2, s3, s4, s5⟩
           go_simp
           with_reducible rfl
          rotate_left
          ·simp only [pz_]
           rfl
          refine one_ (i := 5) (N := some 53) #[t_,t_,t_,t_,t_,t_,f_,f_,f_,f_,f_,f_,f_,f_,f_,f_,f_,f_,f_,f_,f_,f_,f_,f_,f_,f_,f_,f_,f_,f_,f_,f_] rfl rfl (one_of HT_.out (by kernel_rfl)) (by decide) (fun K hK => ?_)
          refine goes_ Try.func137 (by kernel_rfl) rfl #[.int .i64 (rd l1_2 x5_2), .int .i64 20, .int .i64 300] (by rfl) rfl rfl ag_ ?_
          with_reducible refine (spec_l01In.calls (rd l1_2 x5_2) 20 300 true _ A23.out).mono ?_
          rintro e w' ⟨rfl, ⟨nd, rfl⟩⟩
          refine ⟨_, rfl, ?_⟩
          refine hK.out _ _ ⟨(blk_cell BK127.out 0).trans rfl, (blk_cell BK127.out 1).trans rfl, (blk_cell BK127.out 2).trans rfl, (blk_cell BK127.out 3).trans rfl, (bc_ HB.out hw133_0 :), (bc_ HB.out hw135_0 :)⟩ (fun hHeld => ?_)
          clear hK K
          refine norm_ (a' := ?_) ?_ ?_
          rotate_left
          ·show Act.put _ (some 53) _ = _
           simp only [pz_]
           rfl
          refine pu_ 6 54 #[t_,t_,t_,t_,t_,t_,t_,f_,f_,f_,f_,f_,f_,f_,f_,f_,f_,f_,f_,f_,f_,f_,f_,f_,f_,f_,f_,f_,f_,f_,f_,f_] HT_.out ?_
          refine pu_ 7 55 #[t_,t_,t_,t_,t_,t_,t_,t_,f_,f_,f_,f_,f_,f_,f_,f_,f_,f_,f_,f_,f_,f_,f_,f_,f_,f_,f_,f_,f_,f_,f_,f_] HT_.out ?_
          refine pu_ 8 56 #[t_,t_,t_,t_,t_,t_,t_,t_,t_,f_,f_,f_,f_,f_,f_,f_,f_,f_,f_,f_,f_,f_,f_,f_,f_,f_,f_,f_,f_,f_,f_,f_] HT_.out ?_
          refine pu_ 10 58 #[t_,t_,t_,t_,t_,t_,t_,t_,t_,f_,t_,f_,f_,f_,f_,f_,f_,f_,f_,f_,f_,f_,f_,f_,f_,f_,f_,f_,f_,f_,f_,f_] HT_.out ?_
          refine take_ (i := 9) (N := some 57) (v := ?_) (a' := ?_) #[t_,t_,t_,t_,t_,t_,t_,t_,t_,t_,t_,f_,f_,f_,f_,f_,f_,f_,f_,f_,f_,f_,f_,f_,f_,f_,f_,f_,f_,f_,f_,f_] rfl rfl (take_ofW HT_.out HW_.out (by kernel_rfl)) (fun _ _ _ h => h) (Or.inl ⟨by rfl, ?_⟩) hHeld ?_ ?_
          rotate_left
          ·rintro w' ⟨s0, s1, s2, s3, s4, s5⟩
           go_simp
           with_reducible rfl
          rotate_left
          ·simp only [pz_]
           rfl
          refine pu_ 11 59 #[t_,t_,t_,t_,t_,t_,t_,t_,t_,t_,t_,t_,f_,f_,f_,f_,f_,f_,f_,f_,f_,f_,f_,f_,f_,f_,f_,f_,f_,f_,f_,f_] HT_.out ?_
          refine take_ (i := 12) (N := some 60) (v := ?_) (a' := ?_) #[t_,t_,t_,t_,t_,t_,t_,t_,t_,t_,t_,t_,t_,f_,f_,f_,f_,f_,f_,f_,f_,f_,f_,f_,f_,f_,f_,f_,f_,f_,f_,f_] rfl rfl (take_ofW HT_.out HW_.out (by kernel_rfl)) (fun _ _ _ h => h) (Or.inl ⟨by rfl, ?_⟩) hHeld ?_ ?_
          rotate_left
          ·rintro w' ⟨s0, s1, s2, s3, s4, s5⟩
           go_simp
           with_reducible rfl
          rotate_left
          ·simp only [pz_]
           rfl
          refine pu_ 13 61 #[t_,t_,t_,t_,t_,t_,t_,t_,t_,t_,t_,t_,t_,t_,f_,f_,f_,f_,f_,f_,f_,f_,f_,f_,f_,f_,f_,f_,f_,f_,f_,f_] HT_.out ?_
          refine pu_ 14 62 #[t_,t_,t_,t_,t_,t_,t_,t_,t_,t_,t_,t_,t_,t_,t_,f_,f_,f_,f_,f_,f_,f_,f_,f_,f_,f_,f_,f_,f_,f_,f_,f_] HT_.out ?_
          refine pu_ 15 63 #[t_,t_,t_,t_,t_,t_,t_,t_,t_,t_,t_,t_,t_,t_,t_,t_,f_,f_,f_,f_,f_,f_,f_,f_,f_,f_,f_,f_,f_,f_,f_,f_] HT_.out ?_
          refine pu_ 16 64 #[t_,t_,t_,t_,t_,t_,t_,t_,t_,t_,t_,t_,t_,t_,t_,t_,t_,f_,f_,f_,f_,f_,f_,f_,f_,f_,f_,f_,f_,f_,f_,f_] HT_.out ?_
          refine pu_ 17 65 #[t_,t_,t_,t_,t_,t_,t_,t_,t_,t_,t_,t_,t_,t_,t_,t_,t_,t_,f_,f_,f_,f_,f_,f_,f_,f_,f_,f_,f_,f_,f_,f_] HT_.out ?_
          refine un_ 18 66 #[t_,t_,t_,t_,t_,t_,t_,t_,t_,t_,t_,t_,t_,t_,t_,t_,t_,t_,t_,f_,f_,f_,f_,f_,f_,f_,f_,f_,f_,f_,f_,f_] HT_.out ?_
          refine un_ 19 67 #[t_,t_,t_,t_,t_,t_,t_,t_,t_,t_,t_,t_,t_,t_,t_,t_,t_,t_,t_,t_,f_,f_,f_,f_,f_,f_,f_,f_,f_,f_,f_,f_] HT_.out ?_
          refine un_ 20 68 #[t_,t_,t_,t_,t_,t_,t_,t_,t_,t_,t_,t_,t_,t_,t_,t_,t_,t_,t_,t_,t_,f_,f_,f_,f_,f_,f_,f_,f_,f_,f_,f_] HT_.out ?_
          refine un_ 21 69 #[t_,t_,t_,t_,t_,t_,t_,t_,t_,t_,t_,t_,t_,t_,t_,t_,t_,t_,t_,t_,t_,t_,f_,f_,f_,f_,f_,f_,f_,f_,f_,f_] HT_.out ?_
          refine un_ 22 70 #[t_,t_,t_,t_,t_,t_,t_,t_,t_,t_,t_,t_,t_,t_,t_,t_,t_,t_,t_,t_,t_,t_,t_,f_,f_,f_,f_,f_,f_,f_,f_,f_] HT_.out ?_
          refine un_ 23 71 #[t_,t_,t_,t_,t_,t_,t_,t_,t_,t_,t_,t_,t_,t_,t_,t_,t_,t_,t_,t_,t_,t_,t_,t_,f_,f_,f_,f_,f_,f_,f_,f_] HT_.out ?_
          refine un_ 24 72 #[t_,t_,t_,t_,t_,t_,t_,t_,t_,t_,t_,t_,t_,t_,t_,t_,t_,t_,t_,t_,t_,t_,t_,t_,t_,f_,f_,f_,f_,f_,f_,f_] HT_.out ?_
          refine un_ 25 73 #[t_,t_,t_,t_,t_,t_,t_,t_,t_,t_,t_,t_,t_,t_,t_,t_,t_,t_,t_,t_,t_,t_,t_,t_,t_,t_,f_,f_,f_,f_,f_,f_] HT_.out ?_
          refine un_ 26 74 #[t_,t_,t_,t_,t_,t_,t_,t_,t_,t_,t_,t_,t_,t_,t_,t_,t_,t_,t_,t_,t_,t_,t_,t_,t_,t_,t_,f_,f_,f_,f_,f_] HT_.out ?_
          refine un_ 27 75 #[t_,t_,t_,t_,t_,t_,t_,t_,t_,t_,t_,t_,t_,t_,t_,t_,t_,t_,t_,t_,t_,t_,t_,t_,t_,t_,t_,t_,f_,f_,f_,f_] HT_.out ?_
          refine un_ 28 76 #[t_,t_,t_,t_,t_,t_,t_,t_,t_,t_,t_,t_,t_,t_,t_,t_,t_,t_,t_,t_,t_,t_,t_,t_,t_,t_,t_,t_,t_,f_,f_,f_] HT_.out ?_
          refine pu_ 29 77 #[t_,t_,t_,t_,t_,t_,t_,t_,t_,t_,t_,t_,t_,t_,t_,t_,t_,t_,t_,t_,t_,t_,t_,t_,t_,t_,t_,t_,t_,t_,f_,f_] HT_.out ?_
          refine pu_ 30 78 #[t_,t_,t_,t_,t_,t_,t_,t_,t_,t_,t_,t_,t_,t_,t_,t_,t_,t_,t_,t_,t_,t_,t_,t_,t_,t_,t_,t_,t_,t_,t_,f_] HT_.out ?_
          refine pu_ 31 79 #[t_,t_,t_,t_,t_,t_,t_,t_,t_,t_,t_,t_,t_,t_,t_,t_,t_,t_,t_,t_,t_,t_,t_,t_,t_,t_,t_,t_,t_,t_,t_,t_] HT_.out ?_
          refine done_ (done_of HT_.out (by kernel_rfl)) ?_
          try go_wp2
          go_ret
          exact ⟨by first | rfl | (simp [errW_none, errW_some] <;> rfl) | (simp [*, errW_none, errW_some] <;> rfl), r0_ HB.out GE127.out⟩
         ·rw [if_neg c28] at H
          have c28b0 : decide (t132 < 0) = false := decide_eq_false c28
          clear c28
          by_cases c31 : 0 ≤ t132
          case neg =>
           rw [if_neg c31] at H
           exact absurd H (by simp)
          rw [if_pos c31] at H
          have c31b0 : decide (0 ≤ t132) = true := decide_eq_true c31
          clear c31
          by_cases c32 : t132 < (l0.length : Int)
          case neg =>
           rw [if_neg c32] at H
           exact absurd H (by simp)
          rw [if_pos c32] at H
          have c32b0 : decide (t132 < (l0.length : Int)) = true := decide_eq_true c32
          clear c32
          replace H := Option.bind_eq_some_iff.mp H
          obtain ⟨t138, A330, H⟩ := H
          replace H : (if t138 = true then (spec_IsRack.l0 k2 l0 (wrap64 (x5_2 + 1)) a1_0 a1_1 l1_2 l1_3) else (some false)) = some r := H
          have A33 := Aside0.mk A330
          clear A330
          by_cases c34 : t138 = true
          ·subst c34
           replace H : (spec_IsRack.l0 k2 l0 (wrap64 (x5_2 + 1)) a1_0 a1_1 l1_2 l1_3) = some r := by rw [if_pos rfl] at H; exact H
           have H' := Aside0.mk H
           clear H
           have hcz35_0 : wr.cell? ⟨gb127, 0, none⟩ = some (.int .i64 a1_0) := (blk_cell BK127.out 0).trans rfl
           have hcz35_1 : wr.cell? ⟨gb127, 1, none⟩ = some (.int .i64 a1_1) := (blk_cell BK127.out 1).trans rfl
           have hcz35_2 : wr.cell? ⟨gb127, 2, none⟩ = some (.slice A1_2 l1_2.length c1_2) := (blk_cell BK127.out 2).trans rfl
           have hcz35_3 : wr.cell? ⟨gb127, 3, none⟩ = some (.slice A1_3 l1_3.length c1_3) := (blk_cell BK127.out 3).trans rfl
           have hfz35_0 := blk_frozen BK127.out 0
           have hfz35_1 := blk_frozen BK127.out 1
           have hfz35_2 := blk_frozen BK127.out 2
           have hfz35_3 := blk_frozen BK127.out 3
           have p131 : 0 ≤ (x5_2 : Int) := od_
           have q131 : x5_2 < (l1_3.length : Int) := od_
           obtain ⟨ad131, e131, hx131_0⟩ := Kd.at_string HR1_3.out x5_2 p131 q131
           cases e131
           replace hx131_0 := bc_ HB.out hx131_0
           replace p131 := eq_true p131
           replace q131 := eq_true q131
           try go_wp2_with (first | ((with_reducible refine gate_callee (f := 103) rfl ?_); refine goesL_ (some 47) rfl rfl Try.func103 (by kernel_rfl) rfl #[.slice A0 l0.length c0, .string (rdOf ByteArray.empty l1_3 x5_2)] rfl ag_ ?_; (with_reducible refine (spec_l03Find.calls k2 _ _ l0 (rdOf ByteArray.empty l1_3 x5_2) t132 _ ?side1 ?side2 A22.out).mono ?_); (case side1 => exact r2_ HR0.out HB.out); (case side2 => exact HC0.out); rintro e w' ⟨rfl, ⟨nd, rfl⟩⟩; refine ⟨_, rfl, ?_⟩))
           (try (rw [drewN_self wr]; generalize hq_ : World.drewN wr _ = wr; have n0_ : Aside0 (wr.heap[gb127]? = some (.cells #[.int .i64 a1_0, .int .i64 a1_1, .slice A1_2 l1_2.length c1_2, .slice (some ad131) l1_3.length c1_3] 67 (0, 0))) := ⟨by rw [← hq_]; exact (r1_ BK127.out)⟩; have n1_ : Aside0 (Below w.heap.size w wr) := ⟨by rw [← hq_]; exact (r0_ HB.out GE127.out)⟩; clear BK127 HB hq_; have BK127 := n0_; have HB := n1_; clear n0_ n1_))
           replace BK127 := Aside0.mk (blk_drew BK127.out)
           replace HB := Aside0.mk (below_drew1 HB.out)
           have p133 : 0 ≤ (x5_2 : Int) := od_
           have q133 : x5_2 < (l1_2.length : Int) := od_
           obtain ⟨ad133, e133, hx133_0⟩ := Kd.at_int HR1_2.out x5_2 p133 q133
           have hw133_0 := hx133_0
           cases e133
           replace hx133_0 := bc_ HB.out hx133_0
           replace p133 := eq_true p133
           replace q133 := eq_true q133
           have p135 : 0 ≤ (x5_2 : Int) := od_
           have q135 : x5_2 < (l1_3.length : Int) := od_
           obtain ⟨ad135, e135, hx135_0⟩ := Kd.at_string HR1_3.out x5_2 p135 q135
           have hw135_0 := hx135_0
           obtain rfl : ad131 = ad135 := (by injection e135)
           replace hx135_0 := bc_ HB.out hx135_0
           replace p135 := eq_true p135
           replace q135 := eq_true q135
           have p136 : 0 ≤ (t132 : Int) := od_
           have q136 : t132 < (l0.length : Int) := od_
           obtain ⟨ad136, e136, hx136_0, hx136_1, hx136_2, hx136_3, hx136_4, hx136_5, hx136_6, hx136_7, hx136_8⟩ := at_T130 HR0.out t132 p136 q136
           have hw136_8 := hx136_8
           have hw136_7 := hx136_7
           have hw136_6 := hx136_6
           have hw136_5 := hx136_5
           have hw136_4 := hx136_4
           have hw136_3 := hx136_3
           have hw136_2 := hx136_2
           have hw136_1 := hx136_1
           have hw136_0 := hx136_0
           cases e136
           replace hx136_0 := bc_ HB.out hx136_0
           replace hx136_1 := bc_ HB.out hx136_1
           replace hx136_2 := bc_ HB.out hx136_2
           replace hx136_3 := bc_ HB.out hx136_3
           replace hx136_4 := bc_ HB.out hx136_4
           replace hx136_5 := bc_ HB.out hx136_5
           replace hx136_6 := bc_ HB.out hx136_6
           replace hx136_7 := bc_ HB.out hx136_7
           replace hx136_8 := bc_ HB.out hx136_8
           replace p136 := eq_true p136
           replace q136 := eq_true q136
           have p137 : 0 ≤ (x5_2 : Int) := od_
           have q137 : x5_2 < (l1_2.length : Int) := od_
           obtain ⟨ad137, e137, hx137_0⟩ := Kd.at_int HR1_2.out x5_2 p137 q137
           have hw137_0 := hx137_0
           obtain rfl : ad133 = ad137 := (by injection e137)
           replace hx137_0 := bc_ HB.out hx137_0
           replace p137 := eq_true p137
           replace q137 := eq_true q137
           refine start_ (n := 32) (S := fun w' => w'.cell? ⟨gb127, 0, none⟩ = some (.int .i64 a1_0) ∧ w'.cell? ⟨gb127, 1, none⟩ = some (.int .i64 a1_1) ∧ w'.cell? ⟨gb127, 2, none⟩ = some (.slice (some ad133) l1_2.length c1_2) ∧ w'.cell? ⟨gb127, 3, none⟩ = some (.slice (some ad131) l1_3.length c1_3) ∧ w'.cell? (ad133.add (x5_2).toNat) = some (.int .i64 (rd l1_2 x5_2)) ∧ w'.cell? (ad131.add (x5_2).toNat) = some (.string (rdOf ByteArray.empty l1_3 x5_2)) ∧ w'.cell? (ad136.add ((t132).toNat * 9)) = some (.string ((rd_T130 l0 t132).f0)) ∧ w'.cell? ⟨(ad136.add ((t132).toNat * 9)).block, (ad136.add ((t132).toNat * 9)).off + 1, none⟩ = some (.int .i64 ((rd_T130 l0 t132).f1)) ∧ w'.cell? ⟨(ad136.add ((t132).toNat * 9)).block, (ad136.add ((t132).toNat * 9)).off + 2, none⟩ = some (.int .i64 ((rd_T130 l0 t132).f2)) ∧ w'.cell? ⟨(ad136.add ((t132).toNat * 9)).block, (ad136.add ((t132).toNat * 9)).off + 3, none⟩ = some (.int .i64 ((rd_T130 l0 t132).f3)) ∧ w'.cell? ⟨(ad136.add ((t132).toNat * 9)).block, (ad136.add ((t132).toNat * 9)).off + 4, none⟩ = some (.int .i64 ((rd_T130 l0 t132).f4)) ∧ w'.cell? ⟨(ad136.add ((t132).toNat * 9)).block, (ad136.add ((t132).toNat * 9)).off + 5, none⟩ = some (.int .i64 ((rd_T130 l0 t132).f5)) ∧ w'.cell? ⟨(ad136.add ((t132).toNat * 9)).block, (ad136.add ((t132).toNat * 9)).off + 6, none⟩ = some (.int .i64 ((rd_T130 l0 t132).f6)) ∧ w'.cell? ⟨(ad136.add ((t132).toNat * 9)).block, (ad136.add ((t132).toNat * 9)).off + 7, none⟩ = some (.int .i64 ((rd_T130 l0 t132).f7)) ∧ w'.cell? ⟨(ad136.add ((t132).toNat * 9)).block, (ad136.add ((t132).toNat * 9)).off + 8, none⟩ = some (.int .i64 ((rd_T130 l0 t132).f8)) ∧ w'.cell? (ad133.add (x5_2).toNat) = some (.int .i64 (rd l1_2 x5_2))) (ds := []) #[f_,f_,f_,f_,f_,f_,f_,f_,f_,f_,f_,f_,f_,f_,f_,f_,f_,f_,f_,f_,f_,f_,f_,f_,f_,f_,f_,f_,f_,f_,f_,f_] (by kernel_rfl) rfl rfl ⟨(blk_cell BK127.out 0).trans rfl, (blk_cell BK127.out 1).trans rfl, (blk_cell BK127.out 2).trans rfl, (blk_cell BK127.out 3).trans rfl, (bc_ HB.out hw133_0 :), (bc_ HB.out hw135_0 :), (bc_ HB.out hw136_0 :), (bc_ HB.out hw136_1 :), (bc_ HB.out hw136_2 :), (bc_ HB.out hw136_3 :), (bc_ HB.out hw136_4 :), (bc_ HB.out hw136_5 :), (bc_ HB.out hw136_6 :), (bc_ HB.out hw136_7 :), (bc_ HB.out hw136_8 :), (bc_ HB.out hw137_0 :)⟩ (fun hHeld => ?_); refine with_tabW spec_IsRack.tab7 spec_IsRack.bits7 (fun HT_ HW_ => ?_)
           generalize wr.drew = w36 at BK127 HB hx133_0 hx135_0 hx136_0 hx136_1 hx136_2 hx136_3 hx136_4 hx136_5 hx136_6 hx136_7 hx136_8 hx137_0 hHeld ⊢
           refine pu_ 0 48 #[t_,f_,f_,f_,f_,f_,f_,f_,f_,f_,f_,f_,f_,f_,f_,f_,f_,f_,f_,f_,f_,f_,f_,f_,f_,f_,f_,f_,f_,f_,f_,f_] HT_.out ?_
           refine pu_ 2 50 #[t_,f_,t_,f_,f_,f_,f_,f_,f_,f_,f_,f_,f_,f_,f_,f_,f_,f_,f_,f_,f_,f_,f_,f_,f_,f_,f_,f_,f_,f_,f_,f_] HT_.out ?_
           refine take_ (i := 1) (N := some 49) (v := ?_) (a' := ?_) #[t_,t_,t_,f_,f_,f_,f_,f_,f_,f_,f_,f_,f_,f_,f_,f_,f_,f_,f_,f_,f_,f_,f_,f_,f_,f_,f_,f_,f_,f_,f_,f_] rfl rfl (take_ofW HT_.out HW_.out (by kernel_rfl)) (fun _ _ _ h => h) (Or.inl ⟨by rfl, ?_⟩) hHeld ?_ ?_
           rotate_left
           ·rintro w' ⟨s0, s1, s2, s3, s4, s5, s6, s7, s8, s9, s10, s11, s12, s13, s14, s15⟩
            go_simp
            with_reducible rfl
           rotate_left
           ·simp only [pz_]
            rfl
           refine pu_ 3 51 #[t_,t_,t_,t_,f_,f_,f_,f_,f_,f_,f_,f_,f_,f_,f_,f_,f_,f_,f_,f_,f_,f_,f_,f_,f_,f_,f_,f_,f_,f_,f_,f_] HT_.out ?_
           refine take_ (i := 4) (N := some 52) (v := ?_) (a' := ?_) #[t_,t_,t_,t_,t_,f_,f_,f_,f_,f_,f_,f_,f_,f_,f_,f_,f_,f_,f_,f_,f_,f_,f_,f_,f_,f_,f_,f_,f_,f_,f_,f_] rfl rfl (take_ofW HT_.out HW_.out (by kernel_rfl)) (fun _ _ _ h => h) (Or.inl ⟨by rfl, ?_⟩) hHeld ?_ ?_
           rotate_left
           ·rintro w' ⟨s0, s1, s2, s3, s4, s5, s6, s7, s8, s9, s10, s11, s12, s13, s14, s15⟩
            go_simp
            with_reducible rfl
           rotate_left
           ·simp only [pz_]
            rfl
           refine one_ (i := 5) (N := some 53) #[t_,t_,t_,t_,t_,t_,f_,f_,f_,f_,f_,f_,f_,f_,f_,f_,f_,f_,f_,f_,f_,f_,f_,f_,f_,f_,f_,f_,f_,f_,f_,f_] rfl rfl (one_of HT_.out (by kernel_rfl)) (by decide) (fun K hK => ?_)
           refine goes_ Try.func137 (by kernel_rfl) rfl #[.int .i64 (rd l1_2 x5_2), .int .i64 20, .int .i64 300] (by rfl) rfl rfl ag_ ?_
           with_reducible refine (spec_l01In.calls (rd l1_2 x5_2) 20 300 true _ A23.out).mono ?_
           rintro e w' ⟨rfl, ⟨nd, rfl⟩⟩
           refine ⟨_, rfl, ?_⟩
           refine hK.out _ _ ⟨(blk_cell BK127.out 0).trans rfl, (blk_cell BK127.out 1).trans rfl, (blk_cell BK127.out 2).trans rfl, (blk_cell BK127.out 3).trans rfl, (bc_ HB.out hw133_0 :), (bc_ HB.out hw135_0 :), (bc_ HB.out hw136_0 :), (bc_ HB.out hw136_1 :), (bc_ HB.out hw136_2 :), (bc_ HB.out hw136_3 :), (bc_ HB.out hw136_4 :), (bc_ HB.out hw136_5 :), (bc_ HB.out hw136_6 :), (bc_ HB.out hw136_7 :), (bc_ HB.out hw136_8 :), (bc_ HB.out hw137_0 :)⟩ (fun hHeld => ?_)
           clear hK K
           refine norm_ (a' := ?_) ?_ ?_
           rotate_left
           ·show Act.put _ (some 53) _ = _
            simp only [pz_]
            rfl
           refine pu_ 6 54 #[t_,t_,t_,t_,t_,t_,t_,f_,f_,f_,f_,f_,f_,f_,f_,f_,f_,f_,f_,f_,f_,f_,f_,f_,f_,f_,f_,f_,f_,f_,f_,f_] HT_.out ?_
           refine pu_ 7 55 #[t_,t_,t_,t_,t_,t_,t_,t_,f_,f_,f_,f_,f_,f_,f_,f_,f_,f_,f_,f_,f_,f_,f_,f_,f_,f_,f_,f_,f_,f_,f_,f_] HT_.out ?_
           refine pu_ 8 56 #[t_,t_,t_,t_,t_,t_,t_,t_,t_,f_,f_,f_,f_,f_,f_,f_,f_,f_,f_,f_,f_,f_,f_,f_,f_,f_,f_,f_,f_,f_,f_,f_] HT_.out ?_
           refine pu_ 10 58 #[t_,t_,t_,t_,t_,t_,t_,t_,t_,f_,t_,f_,f_,f_,f_,f_,f_,f_,f_,f_,f_,f_,f_,f_,f_,f_,f_,f_,f_,f_,f_,f_] HT_.out ?_
           refine take_ (i := 9) (N := some 57) (v := ?_) (a' := ?_) #[t_,t_,t_,t_,t_,t_,t_,t_,t_,t_,t_,f_,f_,f_,f_,f_,f_,f_,f_,f_,f_,f_,f_,f_,f_,f_,f_,f_,f_,f_,f_,f_] rfl rfl (take_ofW HT_.out HW_.out (by kernel_rfl)) (fun _ _ _ h => h) (Or.inl ⟨by rfl, ?_⟩) hHeld ?_ ?_
           rotate_left
           ·rintro w' ⟨s0, s1, s2, s3, s4, s5, s6, s7, s8, s9, s10, s11, s12, s13, s14, s15⟩
            go_simp
            with_reducible rfl
           rotate_left
           ·simp only [pz_]
            rfl
           refine pu_ 11 59 #[t_,t_,t_,t_,t_,t_,t_,t_,t_,t_,t_,t_,f_,f_,f_,f_,f_,f_,f_,f_,f_,f_,f_,f_,f_,f_,f_,f_,f_,f_,f_,f_] HT_.out ?_
           refine take_ (i := 12) (N := some 60) (v := ?_) (a' := ?_) #[t_,t_,t_,t_,t_,t_,t_,t_,t_,t_,t_,t_,t_,f_,f_,f_,f_,f_,f_,f_,f_,f_,f_,f_,f_,f_,f_,f_,f_,f_,f_,f_] rfl rfl (take_ofW HT_.out HW_.out (by kernel_rfl)) (fun _ _ _ h => h) (Or.inl ⟨by rfl, ?_⟩) hHeld ?_ ?_
           rotate_left
           ·rintro w' ⟨s0, s1, s2, s3, s4, s5, s6, s7, s8, s9, s10, s11, s12, s13, s14, s15⟩
            go_simp
            with_reducible rfl
           rotate_left
           ·simp only [pz_]
            rfl
           refine pu_ 13 61 #[t_,t_,t_,t_,t_,t_,t_,t_,t_,t_,t_,t_,t_,t_,f_,f_,f_,f_,f_,f_,f_,f_,f_,f_,f_,f_,f_,f_,f_,f_,f_,f_] HT_.out ?_
           refine pu_ 14 62 #[t_,t_,t_,t_,t_,t_,t_,t_,t_,t_,t_,t_,t_,t_,t_,f_,f_,f_,f_,f_,f_,f_,f_,f_,f_,f_,f_,f_,f_,f_,f_,f_] HT_.out ?_
           refine pu_ 15 63 #[t_,t_,t_,t_,t_,t_,t_,t_,t_,t_,t_,t_,t_,t_,t_,t_,f_,f_,f_,f_,f_,f_,f_,f_,f_,f_,f_,f_,f_,f_,f_,f_] HT_.out ?_
           refine pu_ 16 64 #[t_,t_,t_,t_,t_,t_,t_,t_,t_,t_,t_,t_,t_,t_,t_,t_,t_,f_,f_,f_,f_,f_,f_,f_,f_,f_,f_,f_,f_,f_,f_,f_] HT_.out ?_
           refine pu_ 17 65 #[t_,t_,t_,t_,t_,t_,t_,t_,t_,t_,t_,t_,t_,t_,t_,t_,t_,t_,f_,f_,f_,f_,f_,f_,f_,f_,f_,f_,f_,f_,f_,f_] HT_.out ?_
           refine pu_ 18 66 #[t_,t_,t_,t_,t_,t_,t_,t_,t_,t_,t_,t_,t_,t_,t_,t_,t_,t_,t_,f_,f_,f_,f_,f_,f_,f_,f_,f_,f_,f_,f_,f_] HT_.out ?_
           refine pu_ 19 67 #[t_,t_,t_,t_,t_,t_,t_,t_,t_,t_,t_,t_,t_,t_,t_,t_,t_,t_,t_,t_,f_,f_,f_,f_,f_,f_,f_,f_,f_,f_,f_,f_] HT_.out ?_
           refine pu_ 20 68 #[t_,t_,t_,t_,t_,t_,t_,t_,t_,t_,t_,t_,t_,t_,t_,t_,t_,t_,t_,t_,t_,f_,f_,f_,f_,f_,f_,f_,f_,f_,f_,f_] HT_.out ?_
           refine pu_ 22 70 #[t_,t_,t_,t_,t_,t_,t_,t_,t_,t_,t_,t_,t_,t_,t_,t_,t_,t_,t_,t_,t_,f_,t_,f_,f_,f_,f_,f_,f_,f_,f_,f_] HT_.out ?_
           refine pu_ 24 72 #[t_,t_,t_,t_,t_,t_,t_,t_,t_,t_,t_,t_,t_,t_,t_,t_,t_,t_,t_,t_,t_,f_,t_,f_,t_,f_,f_,f_,f_,f_,f_,f_] HT_.out ?_
           refine take_ (i := 21) (N := some 69) (v := ?_) (a' := ?_) #[t_,t_,t_,t_,t_,t_,t_,t_,t_,t_,t_,t_,t_,t_,t_,t_,t_,t_,t_,t_,t_,t_,t_,f_,t_,f_,f_,f_,f_,f_,f_,f_] rfl rfl (take_ofW HT_.out HW_.out (by kernel_rfl)) (fun _ _ _ h => h) (Or.inl ⟨by rfl, ?_⟩) hHeld ?_ ?_
           rotate_left
           ·rintro w' ⟨s0, s1, s2, s3, s4, s5, s6, s7, s8, s9, s10, s11, s12, s13, s14, s15⟩
            go_simp
            with_reducible rfl
           rotate_left
           ·simp only [pz_]
            rfl
           refine take_ (i := 23) (N := some 71) (v := ?_) (a' := ?_) #[t_,t_,t_,t_,t_,t_,t_,t_,t_,t_,t_,t_,t_,t_,t_,t_,t_,t_,t_,t_,t_,t_,t_,t_,t_,f_,f_,f_,f_,f_,f_,f_] rfl rfl (take_ofW HT_.out HW_.out (by kernel_rfl)) (fun _ _ _ h => h) (Or.inl ⟨by rfl, ?_⟩) hHeld ?_ ?_
           rotate_left
           ·rintro w' ⟨s0, s1, s2, s3, s4, s5, s6, s7, s8, s9, s10, s11, s12, s13, s14, s15⟩
            go_simp
            with_reducible rfl
           rotate_left
           ·simp only [pz_]
            rfl
           refine pu_ 25 73 #[t_,t_,t_,t_,t_,t_,t_,t_,t_,t_,t_,t_,t_,t_,t_,t_,t_,t_,t_,t_,t_,t_,t_,t_,t_,t_,f_,f_,f_,f_,f_,f_] HT_.out ?_
           refine take_ (i := 26) (N := some 74) (v := ?_) (a' := ?_) #[t_,t_,t_,t_,t_,t_,t_,t_,t_,t_,t_,t_,t_,t_,t_,t_,t_,t_,t_,t_,t_,t_,t_,t_,t_,t_,t_,f_,f_,f_,f_,f_] rfl rfl (take_ofW HT_.out HW_.out (by kernel_rfl)) (fun _ _ _ h => h) (Or.inl ⟨by rfl, ?_⟩) hHeld ?_ ?_
           rotate_left
           ·rintro w' ⟨s0, s1, s2, s3, s4, s5, s6, s7, s8, s9, s10, s11, s12, s13, s14, s15⟩
            go_simp
            with_reducible rfl
           rotate_left
           ·simp only [pz_]
            rfl
           refine one_ (i := 27) (N := some 75) #[t_,t_,t_,t_,t_,t_,t_,t_,t_,t_,t_,t_,t_,t_,t_,t_,t_,t_,t_,t_,t_,t_,t_,t_,t_,t_,t_,t_,f_,f_,f_,f_] rfl rfl (one_of HT_.out (by kernel_rfl)) (by decide) (fun K hK => ?_)
           refine goes_ Try.func163 (by kernel_rfl) rfl #[.agg #[.string ((rd_T130 l0 t132).f0), .int .i64 ((rd_T130 l0 t132).f1), .int .i64 ((rd_T130 l0 t132).f2), .int .i64 ((rd_T130 l0 t132).f3), .int .i64 ((rd_T130 l0 t132).f4), .int .i64 ((rd_T130 l0 t132).f5), .int .i64 ((rd_T130 l0 t132).f6), .int .i64 ((rd_T130 l0 t132).f7), .int .i64 ((rd_T130 l0 t132).f8)], .int .i64 (rd l1_2 x5_2)] (by rfl) rfl rfl ag_ ?_
           with_reducible refine (spec_l17Fits.calls ((rd_T130 l0 t132).f0) ((rd_T130 l0 t132).f1) ((rd_T130 l0 t132).f2) ((rd_T130 l0 t132).f3) ((rd_T130 l0 t132).f4) ((rd_T130 l0 t132).f5) ((rd_T130 l0 t132).f6) ((rd_T130 l0 t132).f7) ((rd_T130 l0 t132).f8) (rd l1_2 x5_2) true _ A33.out).mono ?_
           rintro e w37 ⟨rfl, hb⟩
           refine ⟨_, rfl, ?_⟩
           replace BK127 := Aside0.mk (blk_below (g := gb127) (o := .cells #[.int .i64 a1_0, .int .i64 a1_1, .slice (some ad133) l1_2.length c1_2, .slice (some ad131) l1_3.length c1_3] 67 (0, 0)) (r1_ BK127.out) hb)
           replace HB := Aside0.mk (below_step (r0_ HB.out GE127.out) hb)
           (try clear hb)
           (try clear hb2)
           (try clear hk)
           (try clear hi)
           refine hK.out _ _ ⟨(blk_cell BK127.out 0).trans rfl, (blk_cell BK127.out 1).trans rfl, (blk_cell BK127.out 2).trans rfl, (blk_cell BK127.out 3).trans rfl, (bc_ HB.out hw133_0 :), (bc_ HB.out hw135_0 :), (bc_ HB.out hw136_0 :), (bc_ HB.out hw136_1 :), (bc_ HB.out hw136_2 :), (bc_ HB.out hw136_3 :), (bc_ HB.out hw136_4 :), (bc_ HB.out hw136_5 :), (bc_ HB.out hw136_6 :), (bc_ HB.out hw136_7 :), (bc_ HB.out hw136_8 :), (bc_ HB.out hw137_0 :)⟩ (fun hHeld => ?_)
           clear hK K
           refine norm_ (a' := ?_) ?_ ?_
           rotate_left
           ·show Act.put _ (some 75) _ = _
            simp only [pz_]
            rfl
           refine pu_ 28 76 #[t_,t_,t_,t_,t_,t_,t_,t_,t_,t_,t_,t_,t_,t_,t_,t_,t_,t_,t_,t_,t_,t_,t_,t_,t_,t_,t_,t_,t_,f_,f_,f_] HT_.out ?_
           refine pu_ 29 77 #[t_,t_,t_,t_,t_,t_,t_,t_,t_,t_,t_,t_,t_,t_,t_,t_,t_,t_,t_,t_,t_,t_,t_,t_,t_,t_,t_,t_,t_,t_,f_,f_] HT_.out ?_
           refine pu_ 30 78 #[t_,t_,t_,t_,t_,t_,t_,t_,t_,t_,t_,t_,t_,t_,t_,t_,t_,t_,t_,t_,t_,t_,t_,t_,t_,t_,t_,t_,t_,t_,t_,f_] HT_.out ?_
           refine pu_ 31 79 #[t_,t_,t_,t_,t_,t_,t_,t_,t_,t_,t_,t_,t_,t_,t_,t_,t_,t_,t_,t_,t_,t_,t_,t_,t_,t_,t_,t_,t_,t_,t_,t_] HT_.out ?_
           refine done_ (done_of HT_.out (by kernel_rfl)) ?_
           try go_wp2
           go_roundg k2
           case measure => have := HJ2.out; have := HK2.out; omega
           case rel => exact ⟨(wrap64 (x5_2 + 1)), (by first | rfl | (simp; done) | (simp [*]; done)), H', ⟨by have := HJ2.out; have := HK2.out; omega⟩, ⟨r1_ BK127.out⟩, ⟨r0_ HB.out GE127.out⟩⟩
          ·replace c34 := Bool.eq_false_iff.mpr c34
           subst c34
           replace H : (some false) = some r := by rw [if_neg (show ¬ (false = true) by decide)] at H; exact H
           obtain rfl := Option.some.inj H
           have hcz38_0 : wr.cell? ⟨gb127, 0, none⟩ = some (.int .i64 a1_0) := (blk_cell BK127.out 0).trans rfl
           have hcz38_1 : wr.cell? ⟨gb127, 1, none⟩ = some (.int .i64 a1_1) := (blk_cell BK127.out 1).trans rfl
           have hcz38_2 : wr.cell? ⟨gb127, 2, none⟩ = some (.slice A1_2 l1_2.length c1_2) := (blk_cell BK127.out 2).trans rfl
           have hcz38_3 : wr.cell? ⟨gb127, 3, none⟩ = some (.slice A1_3 l1_3.length c1_3) := (blk_cell BK127.out 3).trans rfl
           have hfz38_0 := blk_frozen BK127.out 0
           have hfz38_1 := blk_frozen BK127.out 1
           have hfz38_2 := blk_frozen BK127.out 2
           have hfz38_3 := blk_frozen BK127.out 3
           have p131 : 0 ≤ (x5_2 : Int) := od_
           have q131 : x5_2 < (l1_3.length : Int) := od_
           obtain ⟨ad131, e131, hx131_0⟩ := Kd.at_string HR1_3.out x5_2 p131 q131
           cases e131
           replace hx131_0 := bc_ HB.out hx131_0
           replace p131 := eq_true p131
           replace q131 := eq_true q131
           try go_wp2_with (first | ((with_reducible refine gate_callee (f := 103) rfl ?_); refine goesL_ (some 47) rfl rfl Try.func103 (by kernel_rfl) rfl #[.slice A0 l0.length c0, .string (rdOf ByteArray.empty l1_3 x5_2)] rfl ag_ ?_; (with_reducible refine (spec_l03Find.calls k2 _ _ l0 (rdOf ByteArray.empty l1_3 x5_2) t132 _ ?side1 ?side2 A22.out).mono ?_); (case side1 => exact r2_ HR0.out HB.out); (case side2 => exact HC0.out); rintro e w' ⟨rfl, ⟨nd, rfl⟩⟩; refine ⟨_, rfl, ?_⟩))
           (try (rw [drewN_self wr]; generalize hq_ : World.drewN wr _ = wr; have n0_ : Aside0 (wr.heap[gb127]? = some (.cells #[.int .i64 a1_0, .int .i64 a1_1, .slice A1_2 l1_2.length c1_2, .slice (some ad131) l1_3.length c1_3] 67 (0, 0))) := ⟨by rw [← hq_]; exact (r1_ BK127.out)⟩; have n1_ : Aside0 (Below w.heap.size w wr) := ⟨by rw [← hq_]; exact (r0_ HB.out GE127.out)⟩; clear BK127 HB hq_; have BK127 := n0_; have HB := n1_; clear n0_ n1_))
           replace BK127 := Aside0.mk (blk_drew BK127.out)
           replace HB := Aside0.mk (below_drew1 HB.out)
           have p133 : 0 ≤ (x5_2 : Int) := od_
           have q133 : x5_2 < (l1_2.length : Int) := od_
           obtain ⟨ad133, e133, hx133_0⟩ := Kd.at_int HR1_2.out x5_2 p133 q133
           have hw133_0 := hx133_0
           cases e133
           replace hx133_0 := bc_ HB.out hx133_0
           replace p133 := eq_true p133
           replace q133 := eq_true q133
           have p135 : 0 ≤ (x5_2 : Int) := od_
           have q135 : x5_2 < (l1_3.length : Int) := od_
           obtain ⟨ad135, e135, hx135_0⟩ := Kd.at_string HR1_3.out x5_2 p135 q135
           have hw135_0 := hx135_0
           obtain rfl : ad131 = ad135 := (by injection e135)
           replace hx135_0 := bc_ HB.out hx135_0
           replace p135 := eq_true p135
           replace q135 := eq_true q135
           have p136 : 0 ≤ (t132 : Int) := od_
           have q136 : t132 < (l0.length : Int) := od_
           obtain ⟨ad136, e136, hx136_0, hx136_1, hx136_2, hx136_3, hx136_4, hx136_5, hx136_6, hx136_7, hx136_8⟩ := at_T130 HR0.out t132 p136 q136
           have hw136_8 := hx136_8
           have hw136_7 := hx136_7
           have hw136_6 := hx136_6
           have hw136_5 := hx136_5
           have hw136_4 := hx136_4
           have hw136_3 := hx136_3
           have hw136_2 := hx136_2
           have hw136_1 := hx136_1
           have hw136_0 := hx136_0
           cases e136
           replace hx136_0 := bc_ HB.out hx136_0
           replace hx136_1 := bc_ HB.out hx136_1
           replace hx136_2 := bc_ HB.out hx136_2
           replace hx136_3 := bc_ HB.out hx136_3
           replace hx136_4 := bc_ HB.out hx136_4
           replace hx136_5 := bc_ HB.out hx136_5
           replace hx136_6 := bc_ HB.out hx136_6
           replace hx136_7 := bc_ HB.out hx136_7
           replace hx136_8 := bc_ HB.out hx136_8
           replace p136 := eq_true p136
           replace q136 := eq_true q136
           have p137 : 0 ≤ (x5_2 : Int) := od_
           have q137 : x5_2 < (l1_2.length : Int) := od_
           obtain ⟨ad137, e137, hx137_0⟩ := Kd.at_int HR1_2.out x5_2 p137 q137
           have hw137_0 := hx137_0
           obtain rfl : ad133 = ad137 := (by injection e137)
           replace hx137_0 := bc_ HB.out hx137_0
           replace p137 := eq_true p137
           replace q137 := eq_true q137
           refine start_ (n := 32) (S := fun w' => w'.cell? ⟨gb127, 0, none⟩ = some (.int .i64 a1_0) ∧ w'.cell? ⟨gb127, 1, none⟩ = some (.int .i64 a1_1) ∧ w'.cell? ⟨gb127, 2, none⟩ = some (.slice (some ad133) l1_2.length c1_2) ∧ w'.cell? ⟨gb127, 3, none⟩ = some (.slice (some ad131) l1_3.length c1_3) ∧ w'.cell? (ad133.add (x5_2).toNat) = some (.int .i64 (rd l1_2 x5_2)) ∧ w'.cell? (ad131.add (x5_2).toNat) = some (.string (rdOf ByteArray.empty l1_3 x5_2)) ∧ w'.cell? (ad136.add ((t132).toNat * 9)) = some (.string ((rd_T130 l0 t132).f0)) ∧ w'.cell? ⟨(ad136.add ((t132).toNat * 9)).block, (ad136.add ((t132).toNat * 9)).off + 1, none⟩ = some (.int .i64 ((rd_T130 l0 t132).f1)) ∧ w'.cell? ⟨(ad136.add ((t132).toNat * 9)).block, (ad136.add ((t132).toNat * 9)).off + 2, none⟩ = some (.int .i64 ((rd_T130 l0 t132).f2)) ∧ w'.cell? ⟨(ad136.add ((t132).toNat * 9)).block, (ad136.add ((t132).toNat * 9)).off + 3, none⟩ = some (.int .i64 ((rd_T130 l0 t132).f3)) ∧ w'.cell? ⟨(ad136.add ((t132).toNat * 9)).block, (ad136.add ((t132).toNat * 9)).off + 4, none⟩ = some (.int .i64 ((rd_T130 l0 t132).f4)) ∧ w'.cell? ⟨(ad136.add ((t132).toNat * 9)).block, (ad136.add ((t132).toNat * 9)).off + 5, none⟩ = some (.int .i64 ((rd_T130 l0 t132).f5)) ∧ w'.cell? ⟨(ad136.add ((t132).toNat * 9)).block, (ad136.add ((t132).toNat * 9)).off + 6, none⟩ = some (.int .i64 ((rd_T130 l0 t132).f6)) ∧ w'.cell? ⟨(ad136.add ((t132).toNat * 9)).block, (ad136.add ((t132).toNat * 9)).off + 7, none⟩ = some (.int .i64 ((rd_T130 l0 t132).f7)) ∧ w'.cell? ⟨(ad136.add ((t132).toNat * 9)).block, (ad136.add ((t132).toNat * 9)).off + 8, none⟩ = some (.int .i64 ((rd_T130 l0 t132).f8)) ∧ w'.cell? (ad133.add (x5_2).toNat) = some (.int .i64 (rd l1_2 x5_2))) (ds := []) #[f_,f_,f_,f_,f_,f_,f_,f_,f_,f_,f_,f_,f_,f_,f_,f_,f_,f_,f_,f_,f_,f_,f_,f_,f_,f_,f_,f_,f_,f_,f_,f_] (by kernel_rfl) rfl rfl ⟨(blk_cell BK127.out 0).trans rfl, (blk_cell BK127.out 1).trans rfl, (blk_cell BK127.out 2).trans rfl, (blk_cell BK127.out 3).trans rfl, (bc_ HB.out hw133_0 :), (bc_ HB.out hw135_0 :), (bc_ HB.out hw136_0 :), (bc_ HB.out hw136_1 :), (bc_ HB.out hw136_2 :), (bc_ HB.out hw136_3 :), (bc_ HB.out hw136_4 :), (bc_ HB.out hw136_5 :), (bc_ HB.out hw136_6 :), (bc_ HB.out hw136_7 :), (bc_ HB.out hw136_8 :), (bc_ HB.out hw137_0 :)⟩ (fun hHeld => ?_); refine with_tabW spec_IsRack.tab7 spec_IsRack.bits7 (fun HT_ HW_ => ?_)
           generalize wr.drew = w39 at BK127 HB hx133_0 hx135_0 hx136_0 hx136_1 hx136_2 hx136_3 hx136_4 hx136_5 hx136_6 hx136_7 hx136_8 hx137_0 hHeld ⊢
           refine pu_ 0 48 #[t_,f_,f_,f_,f_,f_,f_,f_,f_,f_,f_,f_,f_,f_,f_,f_,f_,f_,f_,f_,f_,f_,f_,f_,f_,f_,f_,f_,f_,f_,f_,f_] HT_.out ?_
           refine pu_ 2 50 #[t_,f_,t_,f_,f_,f_,f_,f_,f_,f_,f_,f_,f_,f_,f_,f_,f_,f_,f_,f_,f_,f_,f_,f_,f_,f_,f_,f_,f_,f_,f_,f_] HT_.out ?_
           refine take_ (i := 1) (N := some 49) (v := ?_) (a' := ?_) #[t_,t_,t_,f_,f_,f_,f_,f_,f_,f_,f_,f_,f_,f_,f_,f_,f_,f_,f_,f_,f_,f_,f_,f_,f_,f_,f_,f_,f_,f_,f_,f_] rfl rfl (take_ofW HT_.out HW_.out (by kernel_rfl)) (fun _ _ _ h => h) (Or.inl ⟨by rfl, ?_⟩) hHeld ?_ ?_
           rotate_left
           ·rintro w' ⟨s0, s1, s2, s3, s4, s5, s6, s7, s8, s9, s10, s11, s12, s13, s14, s15⟩
            go_simp
            with_reducible rfl
           rotate_left
           ·simp only [pz_]
            rfl
           refine pu_ 3 51 #[t_,t_,t_,t_,f_,f_,f_,f_,f_,f_,f_,f_,f_,f_,f_,f_,f_,f_,f_,f_,f_,f_,f_,f_,f_,f_,f_,f_,f_,f_,f_,f_] HT_.out ?_
           refine take_ (i := 4) (N := some 52) (v := ?_) (a' := ?_) #[t_,t_,t_,t_,t_,f_,f_,f_,f_,f_,f_,f_,f_,f_,f_,f_,f_,f_,f_,f_,f_,f_,f_,f_,f_,f_,f_,f_,f_,f_,f_,f_] rfl rfl (take_ofW HT_.out HW_.out (by kernel_rfl)) (fun _ _ _ h => h) (Or.inl ⟨by rfl, ?_⟩) hHeld ?_ ?_
           rotate_left
           ·rintro w' ⟨s0, s1, s2, s3, s4, s5, s6, s7, s8, s9, s10, s11, s12, s13, s14, s15⟩
            go_simp
            with_reducible rfl
           rotate_left
           ·simp only [pz_]
            rfl
           refine one_ (i := 5) (N := some 53) #[t_,t_,t_,t_,t_,t_,f_,f_,f_,f_,f_,f_,f_,f_,f_,f_,f_,f_,f_,f_,f_,f_,f_,f_,f_,f_,f_,f_,f_,f_,f_,f_] rfl rfl (one_of HT_.out (by kernel_rfl)) (by decide) (fun K hK => ?_)
           refine goes_ Try.func137 (by kernel_rfl) rfl #[.int .i64 (rd l1_2 x5_2), .int .i64 20, .int .i64 300] (by rfl) rfl rfl ag_ ?_
           with_reducible refine (spec_l01In.calls (rd l1_2 x5_2) 20 300 true _ A23.out).mono ?_
           rintro e w' ⟨rfl, ⟨nd, rfl⟩⟩
           refine ⟨_, rfl, ?_⟩
           refine hK.out _ _ ⟨(blk_cell BK127.out 0).trans rfl, (blk_cell BK127.out 1).trans rfl, (blk_cell BK127.out 2).trans rfl, (blk_cell BK127.out 3).trans rfl, (bc_ HB.out hw133_0 :), (bc_ HB.out hw135_0 :), (bc_ HB.out hw136_0 :), (bc_ HB.out hw136_1 :), (bc_ HB.out hw136_2 :), (bc_ HB.out hw136_3 :), (bc_ HB.out hw136_4 :), (bc_ HB.out hw136_5 :), (bc_ HB.out hw136_6 :), (bc_ HB.out hw136_7 :), (bc_ HB.out hw136_8 :), (bc_ HB.out hw137_0 :)⟩ (fun hHeld => ?_)
           clear hK K
           refine norm_ (a' := ?_) ?_ ?_
           rotate_left
           ·show Act.put _ (some 53) _ = _
            simp only [pz_]
            rfl
           refine pu_ 6 54 #[t_,t_,t_,t_,t_,t_,t_,f_,f_,f_,f_,f_,f_,f_,f_,f_,f_,f_,f_,f_,f_,f_,f_,f_,f_,f_,f_,f_,f_,f_,f_,f_] HT_.out ?_
           refine pu_ 7 55 #[t_,t_,t_,t_,t_,t_,t_,t_,f_,f_,f_,f_,f_,f_,f_,f_,f_,f_,f_,f_,f_,f_,f_,f_,f_,f_,f_,f_,f_,f_,f_,f_] HT_.out ?_
           refine pu_ 8 56 #[t_,t_,t_,t_,t_,t_,t_,t_,t_,f_,f_,f_,f_,f_,f_,f_,f_,f_,f_,f_,f_,f_,f_,f_,f_,f_,f_,f_,f_,f_,f_,f_] HT_.out ?_
           refine pu_ 10 58 #[t_,t_,t_,t_,t_,t_,t_,t_,t_,f_,t_,f_,f_,f_,f_,f_,f_,f_,f_,f_,f_,f_,f_,f_,f_,f_,f_,f_,f_,f_,f_,f_] HT_.out ?_
           refine take_ (i := 9) (N := some 57) (v := ?_) (a' := ?_) #[t_,t_,t_,t_,t_,t_,t_,t_,t_,t_,t_,f_,f_,f_,f_,f_,f_,f_,f_,f_,f_,f_,f_,f_,f_,f_,f_,f_,f_,f_,f_,f_] rfl rfl (take_ofW HT_.out HW_.out (by kernel_rfl)) (fun _ _ _ h => h) (Or.inl ⟨by rfl, ?_⟩) hHeld ?_ ?_
           rotate_left
           ·rintro w' ⟨s0, s1, s2, s3, s4, s5, s6, s7, s8, s9, s10, s11, s12, s13, s14, s15⟩
            go_simp
            with_reducible rfl
           rotate_left
           ·simp only [pz_]
            rfl
           refine pu_ 11 59 #[t_,t_,t_,t_,t_,t_,t_,t_,t_,t_,t_,t_,f_,f_,f_,f_,f_,f_,f_,f_,f_,f_,f_,f_,f_,f_,f_,f_,f_,f_,f_,f_] HT_.out ?_
           refine take_ (i := 12) (N := some 60) (v := ?_) (a' := ?_) #[t_,t_,t_,t_,t_,t_,t_,t_,t_,t_,t_,t_,t_,f_,f_,f_,f_,f_,f_,f_,f_,f_,f_,f_,f_,f_,f_,f_,f_,f_,f_,f_] rfl rfl (take_ofW HT_.out HW_.out (by kernel_rfl)) (fun _ _ _ h => h) (Or.inl ⟨by rfl, ?_⟩) hHeld ?_ ?_
           rotate_left
           ·rintro w' ⟨s0, s1, s2, s3, s4, s5, s6, s7, s8, s9, s10, s11, s12, s13, s14, s15⟩
            go_simp
            with_reducible rfl
           rotate_left
           ·simp only [pz_]
            rfl
           refine pu_ 13 61 #[t_,t_,t_,t_,t_,t_,t_,t_,t_,t_,t_,t_,t_,t_,f_,f_,f_,f_,f_,f_,f_,f_,f_,f_,f_,f_,f_,f_,f_,f_,f_,f_] HT_.out ?_
           refine pu_ 14 62 #[t_,t_,t_,t_,t_,t_,t_,t_,t_,t_,t_,t_,t_,t_,t_,f_,f_,f_,f_,f_,f_,f_,f_,f_,f_,f_,f_,f_,f_,f_,f_,f_] HT_.out ?_
           refine pu_ 15 63 #[t_,t_,t_,t_,t_,t_,t_,t_,t_,t_,t_,t_,t_,t_,t_,t_,f_,f_,f_,f_,f_,f_,f_,f_,f_,f_,f_,f_,f_,f_,f_,f_] HT_.out ?_
           refine pu_ 16 64 #[t_,t_,t_,t_,t_,t_,t_,t_,t_,t_,t_,t_,t_,t_,t_,t_,t_,f_,f_,f_,f_,f_,f_,f_,f_,f_,f_,f_,f_,f_,f_,f_] HT_.out ?_
           refine pu_ 17 65 #[t_,t_,t_,t_,t_,t_,t_,t_,t_,t_,t_,t_,t_,t_,t_,t_,t_,t_,f_,f_,f_,f_,f_,f_,f_,f_,f_,f_,f_,f_,f_,f_] HT_.out ?_
           refine pu_ 18 66 #[t_,t_,t_,t_,t_,t_,t_,t_,t_,t_,t_,t_,t_,t_,t_,t_,t_,t_,t_,f_,f_,f_,f_,f_,f_,f_,f_,f_,f_,f_,f_,f_] HT_.out ?_
           refine pu_ 19 67 #[t_,t_,t_,t_,t_,t_,t_,t_,t_,t_,t_,t_,t_,t_,t_,t_,t_,t_,t_,t_,f_,f_,f_,f_,f_,f_,f_,f_,f_,f_,f_,f_] HT_.out ?_
           refine pu_ 20 68 #[t_,t_,t_,t_,t_,t_,t_,t_,t_,t_,t_,t_,t_,t_,t_,t_,t_,t_,t_,t_,t_,f_,f_,f_,f_,f_,f_,f_,f_,f_,f_,f_] HT_.out ?_
           refine pu_ 22 70 #[t_,t_,t_,t_,t_,t_,t_,t_,t_,t_,t_,t_,t_,t_,t_,t_,t_,t_,t_,t_,t_,f_,t_,f_,f_,f_,f_,f_,f_,f_,f_,f_] HT_.out ?_
           refine pu_ 24 72 #[t_,t_,t_,t_,t_,t_,t_,t_,t_,t_,t_,t_,t_,t_,t_,t_,t_,t_,t_,t_,t_,f_,t_,f_,t_,f_,f_,f_,f_,f_,f_,f_] HT_.out ?_
           refine take_ (i := 21) (N := some 69) (v := ?_) (a' := ?_) #[t_,t_,t_,t_,t_,t_,t_,t_,t_,t_,t_,t_,t_,t_,t_,t_,t_,t_,t_,t_,t_,t_,t_,f_,t_,f_,f_,f_,f_,f_,f_,f_] rfl rfl (take_ofW HT_.out HW_.out (by kernel_rfl)) (fun _ _ _ h => h) (Or.inl ⟨by rfl, ?_⟩) hHeld ?_ ?_
           rotate_left
           ·rintro w' ⟨s0, s1, s2, s3, s4, s5, s6, s7, s8, s9, s10, s11, s12, s13, s14, s15⟩
            go_simp
            with_reducible rfl
           rotate_left
           ·simp only [pz_]
            rfl
           refine take_ (i := 23) (N := some 71) (v := ?_) (a' := ?_) #[t_,t_,t_,t_,t_,t_,t_,t_,t_,t_,t_,t_,t_,t_,t_,t_,t_,t_,t_,t_,t_,t_,t_,t_,t_,f_,f_,f_,f_,f_,f_,f_] rfl rfl (take_ofW HT_.out HW_.out (by kernel_rfl)) (fun _ _ _ h => h) (Or.inl ⟨by rfl, ?_⟩) hHeld ?_ ?_
           rotate_left
           ·rintro w' ⟨s0, s1, s2, s3, s4, s5, s6, s7, s8, s9, s10, s11, s12, s13, s14, s15⟩
            go_simp
            with_reducible rfl
           rotate_left
           ·simp only [pz_]
            rfl
           refine pu_ 25 73 #[t_,t_,t_,t_,t_,t_,t_,t_,t_,t_,t_,t_,t_,t_,t_,t_,t_,t_,t_,t_,t_,t_,t_,t_,t_,t_,f_,f_,f_,f_,f_,f_] HT_.out ?_
           refine take_ (i := 26) (N := some 74) (v := ?_) (a' := ?_) #[t_,t_,t_,t_,t_,t_,t_,t_,t_,t_,t_,t_,t_,t_,t_,t_,t_,t_,t_,t_,t_,t_,t_,t_,t_,t_,t_,f_,f_,f_,f_,f_] rfl rfl (take_ofW HT_.out HW_.out (by kernel_rfl)) (fun _ _ _ h => h) (Or.inl ⟨by rfl, ?_⟩) hHeld ?_ ?_
           rotate_left
           ·rintro w' ⟨s0, s1, s2, s3, s4, s5, s6, s7, s8, s9, s10, s11, s12, s13, s14, s15⟩
            go_simp
            with_reducible rfl
           rotate_left
           ·simp only [pz_]
            rfl
           refine one_ (i := 27) (N := some 75) #[t_,t_,t_,t_,t_,t_,t_,t_,t_,t_,t_,t_,t_,t_,t_,t_,t_,t_,t_,t_,t_,t_,t_,t_,t_,t_,t_,t_,f_,f_,f_,f_] rfl rfl (one_of HT_.out (by kernel_rfl)) (by decide) (fun K hK => ?_)
           refine goes_ Try.func163 (by kernel_rfl) rfl #[.agg #[.string ((rd_T130 l0 t132).f0), .int .i64 ((rd_T130 l0 t132).f1), .int .i64 ((rd_T130 l0 t132).f2), .int .i64 ((rd_T130 l0 t132).f3), .int .i64 ((rd_T130 l0 t132).f4), .int .i64 ((rd_T130 l0 t132).f5), .int .i64 ((rd_T130 l0 t132).f6), .int .i64 ((rd_T130 l0 t132).f7), .int .i64 ((rd_T130 l0 t132).f8)], .int .i64 (rd l1_2 x5_2)] (by rfl) rfl rfl ag_ ?_
           with_reducible refine (spec_l17Fits.calls ((rd_T130 l0 t132).f0) ((rd_T130 l0 t132).f1) ((rd_T130 l0 t132).f2) ((rd_T130 l0 t132).f3) ((rd_T130 l0 t132).f4) ((rd_T130 l0 t132).f5) ((rd_T130 l0 t132).f6) ((rd_T130 l0 t132).f7) ((rd_T130 l0 t132).f8) (rd l1_2 x5_2) false _ A33.out).mono ?_
           rintro e w40 ⟨rfl, hb⟩
           refine ⟨_, rfl, ?_⟩
           replace BK127 := Aside0.mk (blk_below (g := gb127) (o := .cells #[.int .i64 a1_0, .int .i64 a1_1, .slice (some ad133) l1_2.length c1_2, .slice (some ad131) l1_3.length c1_3] 67 (0, 0)) (r1_ BK127.out) hb)
           replace HB := Aside0.mk (below_step (r0_ HB.out GE127.out) hb)
           (try clear hb)
           (try clear hb2)
           (try clear hk)
           (try clear hi)
           refine hK.out _ _ ⟨(blk_cell BK127.out 0).trans rfl, (blk_cell BK127.out 1).trans rfl, (blk_cell BK127.out 2).trans rfl, (blk_cell BK127.out 3).trans rfl, (bc_ HB.out hw133_0 :), (bc_ HB.out hw135_0 :), (bc_ HB.out hw136_0 :), (bc_ HB.out hw136_1 :), (bc_ HB.out hw136_2 :), (bc_ HB.out hw136_3 :), (bc_ HB.out hw136_4 :), (bc_ HB.out hw136_5 :), (bc_ HB.out hw136_6 :), (bc_ HB.out hw136_7 :), (bc_ HB.out hw136_8 :), (bc_ HB.out hw137_0 :)⟩ (fun hHeld => ?_)
           clear hK K
           refine norm_ (a' := ?_) ?_ ?_
           rotate_left
           ·show Act.put _ (some 75) _ = _
            simp only [pz_]
            rfl
           refine pu_ 28 76 #[t_,t_,t_,t_,t_,t_,t_,t_,t_,t_,t_,t_,t_,t_,t_,t_,t_,t_,t_,t_,t_,t_,t_,t_,t_,t_,t_,t_,t_,f_,f_,f_] HT_.out ?_
           refine pu_ 29 77 #[t_,t_,t_,t_,t_,t_,t_,t_,t_,t_,t_,t_,t_,t_,t_,t_,t_,t_,t_,t_,t_,t_,t_,t_,t_,t_,t_,t_,t_,t_,f_,f_] HT_.out ?_
           refine pu_ 30 78 #[t_,t_,t_,t_,t_,t_,t_,t_,t_,t_,t_,t_,t_,t_,t_,t_,t_,t_,t_,t_,t_,t_,t_,t_,t_,t_,t_,t_,t_,t_,t_,f_] HT_.out ?_
           refine pu_ 31 79 #[t_,t_,t_,t_,t_,t_,t_,t_,t_,t_,t_,t_,t_,t_,t_,t_,t_,t_,t_,t_,t_,t_,t_,t_,t_,t_,t_,t_,t_,t_,t_,t_] HT_.out ?_
           refine done_ (done_of HT_.out (by kernel_rfl)) ?_
           try go_wp2
           go_ret
           exact ⟨by first | rfl | (simp [errW_none, errW_some] <;> rfl) | (simp [*, errW_none, errW_some] <;> rfl), r0_ HB.out GE127.out⟩
       ·replace c24 := Bool.eq_false_iff.mpr c24
        subst c24
        replace H : (some false) = some r := by rw [if_neg (show ¬ (false = true) by decide)] at H; exact H
        obtain rfl := Option.some.inj H
        have hcz41_0 : wr.cell? ⟨gb127, 0, none⟩ = some (.int .i64 a1_0) := (blk_cell BK127.out 0).trans rfl
        have hcz41_1 : wr.cell? ⟨gb127, 1, none⟩ = some (.int .i64 a1_1) := (blk_cell BK127.out 1).trans rfl
        have hcz41_2 : wr.cell? ⟨gb127, 2, none⟩ = some (.slice A1_2 l1_2.length c1_2) := (blk_cell BK127.out 2).trans rfl
        have hcz41_3 : wr.cell? ⟨gb127, 3, none⟩ = some (.slice A1_3 l1_3.length c1_3) := (blk_cell BK127.out 3).trans rfl
        have hfz41_0 := blk_frozen BK127.out 0
        have hfz41_1 := blk_frozen BK127.out 1
        have hfz41_2 := blk_frozen BK127.out 2
        have hfz41_3 := blk_frozen BK127.out 3
        have p131 : 0 ≤ (x5_2 : Int) := od_
        have q131 : x5_2 < (l1_3.length : Int) := od_
        obtain ⟨ad131, e131, hx131_0⟩ := Kd.at_string HR1_3.out x5_2 p131 q131
        cases e131
        replace hx131_0 := bc_ HB.out hx131_0
        replace p131 := eq_true p131
        replace q131 := eq_true q131
        try go_wp2_with (first | ((with_reducible refine gate_callee (f := 103) rfl ?_); refine goesL_ (some 47) rfl rfl Try.func103 (by kernel_rfl) rfl #[.slice A0 l0.length c0, .string (rdOf ByteArray.empty l1_3 x5_2)] rfl ag_ ?_; (with_reducible refine (spec_l03Find.calls k2 _ _ l0 (rdOf ByteArray.empty l1_3 x5_2) t132 _ ?side1 ?side2 A22.out).mono ?_); (case side1 => exact r2_ HR0.out HB.out); (case side2 => exact HC0.out); rintro e w' ⟨rfl, ⟨nd, rfl⟩⟩; refine ⟨_, rfl, ?_⟩))
        (try (rw [drewN_self wr]; generalize hq_ : World.drewN wr _ = wr; have n0_ : Aside0 (wr.heap[gb127]? = some (.cells #[.int .i64 a1_0, .int .i64 a1_1, .slice A1_2 l1_2.length c1_2, .slice (some ad131) l1_3.length c1_3] 67 (0, 0))) := ⟨by rw [← hq_]; exact (r1_ BK127.out)⟩; have n1_ : Aside0 (Below w.heap.size w wr) := ⟨by rw [← hq_]; exact (r0_ HB.out GE127.out)⟩; clear BK127 HB hq_; have BK127 := n0_; have HB := n1_; clear n0_ n1_))
        replace BK127 := Aside0.mk (blk_drew BK127.out)
        replace HB := Aside0.mk (below_drew1 HB.out)
        have p133 : 0 ≤ (x5_2 : Int) := od_
        have q133 : x5_2 < (l1_2.length : Int) := od_
        obtain ⟨ad133, e133, hx133_0⟩ := Kd.at_int HR1_2.out x5_2 p133 q133
        have hw133_0 := hx133_0
        cases e133
        replace hx133_0 := bc_ HB.out hx133_0
        replace p133 := eq_true p133
        replace q133 := eq_true q133
        refine start_ (n := 32) (S := fun w' => w'.cell? ⟨gb127, 0, none⟩ = some (.int .i64 a1_0) ∧ w'.cell? ⟨gb127, 1, none⟩ = some (.int .i64 a1_1) ∧ w'.cell? ⟨gb127, 2, none⟩ = some (.slice (some ad133) l1_2.length c1_2) ∧ w'.cell? ⟨gb127, 3, none⟩ = some (.slice (some ad131) l1_3.length c1_3) ∧ w'.cell? (ad133.add (x5_2).toNat) = some (.int .i64 (rd l1_2 x5_2))) (ds := []) #[f_,f_,f_,f_,f_,f_,f_,f_,f_,f_,f_,f_,f_,f_,f_,f_,f_,f_,f_,f_,f_,f_,f_,f_,f_,f_,f_,f_,f_,f_,f_,f_] (by kernel_rfl) rfl rfl ⟨(blk_cell BK127.out 0).trans rfl, (blk_cell BK127.out 1).trans rfl, (blk_cell BK127.out 2).trans rfl, (blk_cell BK127.out 3).trans rfl, (bc_ HB.out hw133_0 :)⟩ (fun hHeld => ?_); refine with_tabW spec_IsRack.tab7 spec_IsRack.bits7 (fun HT_ HW_ => ?_)
        generalize wr.drew = w42 at BK127 HB hx133_0 hHeld ⊢
        refine pu_ 0 48 #[t_,f_,f_,f_,f_,f_,f_,f_,f_,f_,f_,f_,f_,f_,f_,f_,f_,f_,f_,f_,f_,f_,f_,f_,f_,f_,f_,f_,f_,f_,f_,f_] HT_.out ?_
        refine pu_ 2 50 #[t_,f_,t_,f_,f_,f_,f_,f_,f_,f_,f_,f_,f_,f_,f_,f_,f_,f_,f_,f_,f_,f_,f_,f_,f_,f_,f_,f_,f_,f_,f_,f_] HT_.out ?_
        refine take_ (i := 1) (N := some 49) (v := ?_) (a' := ?_) #[t_,t_,t_,f_,f_,f_,f_,f_,f_,f_,f_,f_,f_,f_,f_,f_,f_,f_,f_,f_,f_,f_,f_,f_,f_,f_,f_,f_,f_,f_,f_,f_] rfl rfl (take_ofW HT_.out HW_.out (by kernel_rfl)) (fun _ _ _ h => h) (Or.inl ⟨by rfl, ?_⟩) hHeld ?_ ?_
        rotate_left
        ·rintro w' ⟨s0, s1, s2, s3, s4⟩
         go_simp
         with_reducible rfl
        rotate_left
        ·simp only [pz_]
         rfl
        refine pu_ 3 51 #[t_,t_,t_,t_,f_,f_,f_,f_,f_,f_,f_,f_,f_,f_,f_,f_,f_,f_,f_,f_,f_,f_,f_,f_,f_,f_,f_,f_,f_,f_,f_,f_] HT_.out ?_
        refine take_ (i := 4) (N := some 52) (v := ?_) (a' := ?_) #[t_,t_,t_,t_,t_,f_,f_,f_,f_,f_,f_,f_,f_,f_,f_,f_,f_,f_,f_,f_,f_,f_,f_,f_,f_,f_,f_,f_,f_,f_,f_,f_] rfl rfl (take_ofW HT_.out HW_.out (by kernel_rfl)) (fun _ _ _ h => h) (Or.inl ⟨by rfl, ?_⟩) hHeld ?_ ?_
        rotate_left
        ·rintro w' ⟨s0, s1, s2, s3, s4⟩
         go_simp
         with_reducible rfl
        rotate_left
        ·simp only [pz_]
         rfl
        refine one_ (i := 5) (N := some 53) #[t_,t_,t_,t_,t_,t_,f_,f_,f_,f_,f_,f_,f_,f_,f_,f_,f_,f_,f_,f_,f_,f_,f_,f_,f_,f_,f_,f_,f_,f_,f_,f_] rfl rfl (one_of HT_.out (by kernel_rfl)) (by decide) (fun K hK => ?_)
        refine goes_ Try.func137 (by kernel_rfl) rfl #[.int .i64 (rd l1_2 x5_2), .int .i64 20, .int .i64 300] (by rfl) rfl rfl ag_ ?_
        with_reducible refine (spec_l01In.calls (rd l1_2 x5_2) 20 300 false _ A23.out).mono ?_
        rintro e w' ⟨rfl, ⟨nd, rfl⟩⟩
        refine ⟨_, rfl, ?_⟩
        refine hK.out _ _ ⟨(blk_cell BK127.out 0).trans rfl, (blk_cell BK127.out 1).trans rfl, (blk_cell BK127.out 2).trans rfl, (blk_cell BK127.out 3).trans rfl, (bc_ HB.out hw133_0 :)⟩ (fun hHeld => ?_)
        clear hK K
        refine norm_ (a' := ?_) ?_ ?_
        rotate_left
        ·show Act.put _ (some 53) _ = _
         simp only [pz_]
         rfl
        refine pu_ 6 54 #[t_,t_,t_,t_,t_,t_,t_,f_,f_,f_,f_,f_,f_,f_,f_,f_,f_,f_,f_,f_,f_,f_,f_,f_,f_,f_,f_,f_,f_,f_,f_,f_] HT_.out ?_
        refine pu_ 7 55 #[t_,t_,t_,t_,t_,t_,t_,t_,f_,f_,f_,f_,f_,f_,f_,f_,f_,f_,f_,f_,f_,f_,f_,f_,f_,f_,f_,f_,f_,f_,f_,f_] HT_.out ?_
        refine un_ 8 56 #[t_,t_,t_,t_,t_,t_,t_,t_,t_,f_,f_,f_,f_,f_,f_,f_,f_,f_,f_,f_,f_,f_,f_,f_,f_,f_,f_,f_,f_,f_,f_,f_] HT_.out ?_
        refine un_ 9 57 #[t_,t_,t_,t_,t_,t_,t_,t_,t_,t_,f_,f_,f_,f_,f_,f_,f_,f_,f_,f_,f_,f_,f_,f_,f_,f_,f_,f_,f_,f_,f_,f_] HT_.out ?_
        refine un_ 10 58 #[t_,t_,t_,t_,t_,t_,t_,t_,t_,t_,t_,f_,f_,f_,f_,f_,f_,f_,f_,f_,f_,f_,f_,f_,f_,f_,f_,f_,f_,f_,f_,f_] HT_.out ?_
        refine un_ 11 59 #[t_,t_,t_,t_,t_,t_,t_,t_,t_,t_,t_,t_,f_,f_,f_,f_,f_,f_,f_,f_,f_,f_,f_,f_,f_,f_,f_,f_,f_,f_,f_,f_] HT_.out ?_
        refine un_ 12 60 #[t_,t_,t_,t_,t_,t_,t_,t_,t_,t_,t_,t_,t_,f_,f_,f_,f_,f_,f_,f_,f_,f_,f_,f_,f_,f_,f_,f_,f_,f_,f_,f_] HT_.out ?_
        refine un_ 13 61 #[t_,t_,t_,t_,t_,t_,t_,t_,t_,t_,t_,t_,t_,t_,f_,f_,f_,f_,f_,f_,f_,f_,f_,f_,f_,f_,f_,f_,f_,f_,f_,f_] HT_.out ?_
        refine un_ 14 62 #[t_,t_,t_,t_,t_,t_,t_,t_,t_,t_,t_,t_,t_,t_,t_,f_,f_,f_,f_,f_,f_,f_,f_,f_,f_,f_,f_,f_,f_,f_,f_,f_] HT_.out ?_
        refine un_ 15 63 #[t_,t_,t_,t_,t_,t_,t_,t_,t_,t_,t_,t_,t_,t_,t_,t_,f_,f_,f_,f_,f_,f_,f_,f_,f_,f_,f_,f_,f_,f_,f_,f_] HT_.out ?_
        refine un_ 16 64 #[t_,t_,t_,t_,t_,t_,t_,t_,t_,t_,t_,t_,t_,t_,t_,t_,t_,f_,f_,f_,f_,f_,f_,f_,f_,f_,f_,f_,f_,f_,f_,f_] HT_.out ?_
        refine un_ 17 65 #[t_,t_,t_,t_,t_,t_,t_,t_,t_,t_,t_,t_,t_,t_,t_,t_,t_,t_,f_,f_,f_,f_,f_,f_,f_,f_,f_,f_,f_,f_,f_,f_] HT_.out ?_
        refine un_ 18 66 #[t_,t_,t_,t_,t_,t_,t_,t_,t_,t_,t_,t_,t_,t_,t_,t_,t_,t_,t_,f_,f_,f_,f_,f_,f_,f_,f_,f_,f_,f_,f_,f_] HT_.out ?_
        refine un_ 19 67 #[t_,t_,t_,t_,t_,t_,t_,t_,t_,t_,t_,t_,t_,t_,t_,t_,t_,t_,t_,t_,f_,f_,f_,f_,f_,f_,f_,f_,f_,f_,f_,f_] HT_.out ?_
        refine un_ 20 68 #[t_,t_,t_,t_,t_,t_,t_,t_,t_,t_,t_,t_,t_,t_,t_,t_,t_,t_,t_,t_,t_,f_,f_,f_,f_,f_,f_,f_,f_,f_,f_,f_] HT_.out ?_
        refine un_ 21 69 #[t_,t_,t_,t_,t_,t_,t_,t_,t_,t_,t_,t_,t_,t_,t_,t_,t_,t_,t_,t_,t_,t_,f_,f_,f_,f_,f_,f_,f_,f_,f_,f_] HT_.out ?_
        refine un_ 22 70 #[t_,t_,t_,t_,t_,t_,t_,t_,t_,t_,t_,t_,t_,t_,t_,t_,t_,t_,t_,t_,t_,t_,t_,f_,f_,f_,f_,f_,f_,f_,f_,f_] HT_.out ?_
        refine un_ 23 71 #[t_,t_,t_,t_,t_,t_,t_,t_,t_,t_,t_,t_,t_,t_,t_,t_,t_,t_,t_,t_,t_,t_,t_,t_,f_,f_,f_,f_,f_,f_,f_,f_] HT_.out ?_
        refine un_ 24 72 #[t_,t_,t_,t_,t_,t_,t_,t_,t_,t_,t_,t_,t_,t_,t_,t_,t_,t_,t_,t_,t_,t_,t_,t_,t_,f_,f_,f_,f_,f_,f_,f_] HT_.out ?_
        refine un_ 25 73 #[t_,t_,t_,t_,t_,t_,t_,t_,t_,t_,t_,t_,t_,t_,t_,t_,t_,t_,t_,t_,t_,t_,t_,t_,t_,t_,f_,f_,f_,f_,f_,f_] HT_.out ?_
        refine un_ 26 74 #[t_,t_,t_,t_,t_,t_,t_,t_,t_,t_,t_,t_,t_,t_,t_,t_,t_,t_,t_,t_,t_,t_,t_,t_,t_,t_,t_,f_,f_,f_,f_,f_] HT_.out ?_
        refine un_ 27 75 #[t_,t_,t_,t_,t_,t_,t_,t_,t_,t_,t_,t_,t_,t_,t_,t_,t_,t_,t_,t_,t_,t_,t_,t_,t_,t_,t_,t_,f_,f_,f_,f_] HT_.out ?_
        refine un_ 28 76 #[t_,t_,t_,t_,t_,t_,t_,t_,t_,t_,t_,t_,t_,t_,t_,t_,t_,t_,t_,t_,t_,t_,t_,t_,t_,t_,t_,t_,t_,f_,f_,f_] HT_.out ?_
        refine un_ 29 77 #[t_,t_,t_,t_,t_,t_,t_,t_,t_,t_,t_,t_,t_,t_,t_,t_,t_,t_,t_,t_,t_,t_,t_,t_,t_,t_,t_,t_,t_,t_,f_,f_] HT_.out ?_
        refine un_ 30 78 #[t_,t_,t_,t_,t_,t_,t_,t_,t_,t_,t_,t_,t_,t_,t_,t_,t_,t_,t_,t_,t_,t_,t_,t_,t_,t_,t_,t_,t_,t_,t_,f_] HT_.out ?_
        refine pu_ 31 79 #[t_,t_,t_,t_,t_,t_,t_,t_,t_,t_,t_,t_,t_,t_,t_,t_,t_,t_,t_,t_,t_,t_,t_,t_,t_,t_,t_,t_,t_,t_,t_,t_] HT_.out ?_
        refine done_ (done_of HT_.out (by kernel_rfl)) ?_
        try go_wp2
        go_ret
        exact ⟨by first | rfl | (simp [errW_none, errW_some] <;> rfl) | (simp [*, errW_none, errW_some] <;> rfl), r0_ HB.out GE127.out⟩
      ·rw [if_neg c19] at H
       have c19b0 : decide (x5_2 < (l1_2.length : Int)) = false := decide_eq_false c19
       clear c19
       obtain rfl := Option.some.inj H
       have hcz43_0 : wr.cell? ⟨gb127, 0, none⟩ = some (.int .i64 a1_0) := (blk_cell BK127.out 0).trans rfl
       have hcz43_1 : wr.cell? ⟨gb127, 1, none⟩ = some (.int .i64 a1_1) := (blk_cell BK127.out 1).trans rfl
       have hcz43_2 : wr.cell? ⟨gb127, 2, none⟩ = some (.slice A1_2 l1_2.length c1_2) := (blk_cell BK127.out 2).trans rfl
       have hcz43_3 : wr.cell? ⟨gb127, 3, none⟩ = some (.slice A1_3 l1_3.length c1_3) := (blk_cell BK127.out 3).trans rfl
       have hfz43_0 := blk_frozen BK127.out 0
       have hfz43_1 := blk_frozen BK127.out 1
       have hfz43_2 := blk_frozen BK127.out 2
       have hfz43_3 := blk_frozen BK127.out 3
       go_wp2
       go_ret
       exact ⟨by first | rfl | (simp [errW_none, errW_some] <;> rfl) | (simp [*, errW_none, errW_some] <;> rfl), r0_ HB.out GE127.out⟩
end Go.Proofs.Ytalcbcelalbhiaa.PFnExactGreatestLoad
