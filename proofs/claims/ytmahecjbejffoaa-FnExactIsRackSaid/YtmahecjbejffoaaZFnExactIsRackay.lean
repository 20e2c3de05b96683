/- QFnExactIsRackb of the law FnExactIsRack: taken over, declaration by declaration, as far as the law leans on it (the words and the printed functions are the kit's own print). No condition but what each says. -/
import Derived.Test.YtmahecjbejffoaaZFnExactIsRackav
import Derived.Laws.Cover1
import Derived.Test.YtmahecjbejffoaaZFnExactIsRackaw
import Derived.Test.YtmahecjbejffoaaZFnExactIsRackax
namespace Go.Proofs.Ytmahecjbejffoaa.PFnExactIsRack
open Go.RowKit Go.Proofs.YtmahecjbejffoaaW.PrintWords Go.Proofs.YtmahecjbejffoaaW.PrintLast Go.Proofs.YtmahecjbejffoaaW.PrintMore
attribute [local go_sem] max2_int min2_int max_two min_two max_three min_three max_four min_four   -- for this text's walks alone
set_option linter.unusedVariables false
set_option linter.unusedSimpArgs false
open Bool renaming true → t_, false → f_
def spec_AreArticles.l0 : Nat → List (S177) → Int → Option (Bool)
 | 0, _, _ => none
 | k + 1, x0, x3 => if x3 < (x0.length : Int) then (if 0 ≤ x3 then ((spec_IsArticle.f k ((rd_T177 x0 x3).f0) ((rd_T177 x0 x3).f1) ((rd_T177 x0 x3).f2) ((rd_T177 x0 x3).f3) ((rd_T177 x0 x3).f4) ((rd_T177 x0 x3).f5) ((rd_T177 x0 x3).f6) ((rd_T177 x0 x3).f7) ((rd_T177 x0 x3).f8)).bind fun t120 => (if t120 = true then (if x3 > 0 then (if 0 ≤ (wrap64 (x3 - 1)) then (if (wrap64 (x3 - 1)) < (x0.length : Int) then (if ((Op.bytesLess (((rd_T177 x0 (wrap64 (x3 - 1))).f0).toList) (((rd_T177 x0 x3).f0).toList)) = true) then (spec_AreArticles.l0 k x0 (wrap64 (x3 + 1))) else (some false)) else (none)) else (none)) else (spec_AreArticles.l0 k x0 (wrap64 (x3 + 1)))) else (some false))) else (none)) else (some (decide ((x0.length : Int) ≤ 12)))
def spec_AreArticles.f (k : Nat) (l0 : List (S177)) : Option (Bool) := spec_AreArticles.l0 k l0 0
def spec_AreArticles.T4 : Bool × List (List Nat × List Nat) := (true, [([], []), ([], []), ([0, 1], [0, 1]), ([2], [2]), ([3], [3]), ([4], [4]), ([5, 4], [5]), ([6], [6]), ([7, 6], [6, 7]), ([8, 6, 6], [6, 8]), ([9], [9]), ([9], [9]), ([11, 9], [9, 11]), ([10, 12, 9], [9, 10, 12]), ([13, 9], [9, 13]), ([14, 9], [9, 14]), ([9], [9]), ([9], [9]), ([16, 17, 9], [9, 16, 17]), ([18, 9], [9, 18]), ([19, 9], [9, 19]), ([15, 20, 9], [9, 15, 20]), ([9, 21, 6], [6, 9, 21]), ([6, 22], [6, 22])])
def spec_AreArticles.B4 : List Nat := [0, 0, 3, 7, 15, 31, 63, 127, 255, 511, 1023, 1023, 3071, 8191, 16383, 32767, 1023, 1023, 197631, 459775, 984063, 2097151, 4194303, 8388607]
theorem spec_AreArticles.tab4 : rtab .any (opsOf Try.f163 4) = spec_AreArticles.T4 := by kernel_rfl
theorem spec_AreArticles.bits4 : waitsOk spec_AreArticles.T4.2 spec_AreArticles.B4 = true := by kernel_rfl
set_option maxHeartbeats 8000000 in
set_option maxRecDepth 100000 in
theorem spec_AreArticles.calls (k : Nat) (A0 : Option Addr) (c0 : Nat) (l0 : List (S177)) (r : Bool) (w : World) (hr0 : Kd.C k177 w A0 l0.length l0) (hc0 : l0.length ≤ c0) (h : spec_AreArticles.f k l0 = some r) :
  Calls Try.prog 163 #[.slice A0 l0.length c0] w fun e w' => e = .returned (.bool r) ∧ Below w.heap.size w w' := by
 have hu177 := Try.underlying177
 have HR0 := Aside0.mk hr0
 have HC0 := Aside0.mk hc0
 clear hr0 hc0
 have HB := Aside0.mk (Below.refl w.heap.size w)
 have H : (spec_AreArticles.l0 k l0 0) = some r := h
 clear h
 have H' := Aside0.mk H
 clear H
 go_enter Try.func163, Try.ntmps163
 go_wp2
 go_loopg [3] k (fun kq v3 w' => ∃ (x3_1 : Int), v3 = .int .i64 x3_1 ∧ Aside0 (spec_AreArticles.l0 kq l0 x3_1 = some r) ∧ Aside0 (kq ≤ k) ∧ Aside0 (Below w.heap.size w w'))
 case atStart => exact ⟨(0), (by first | rfl | (simp; done) | (simp [*]; done)), H', ⟨Nat.le_refl _⟩, ⟨bl_ HB.out⟩⟩
 case round =>
  clear H'
  try clear c1
  obtain ⟨x3_1, rfl, HA, HK1, HB⟩ := hrel
  cases gk with
  | zero => exact absurd HA.out (by simp [spec_AreArticles.l0])
  | succ k1 =>
   have H := HA.out
   clear HA
   simp only [spec_AreArticles.l0] at H
   by_cases c2 : x3_1 < (l0.length : Int)
   ·rw [if_pos c2] at H
    have c2b0 : decide (x3_1 < (l0.length : Int)) = true := decide_eq_true c2
    clear c2
    by_cases c3 : 0 ≤ x3_1
    case neg =>
     rw [if_neg c3] at H
     exact absurd H (by simp)
    rw [if_pos c3] at H
    have c3b0 : decide (0 ≤ x3_1) = true := decide_eq_true c3
    clear c3
    replace H := Option.bind_eq_some_iff.mp H
    obtain ⟨t120, A40, H⟩ := H
    replace H : (if t120 = true then (if x3_1 > 0 then (if 0 ≤ (wrap64 (x3_1 - 1)) then (if (wrap64 (x3_1 - 1)) < (l0.length : Int) then (if ((Op.bytesLess (((rd_T177 l0 (wrap64 (x3_1 - 1))).f0).toList) (((rd_T177 l0 x3_1).f0).toList)) = true) then (spec_AreArticles.l0 k1 l0 (wrap64 (x3_1 + 1))) else (some false)) else (none)) else (none)) else (spec_AreArticles.l0 k1 l0 (wrap64 (x3_1 + 1)))) else (some false)) = some r := H
    have A4 := Aside0.mk A40
    clear A40
    by_cases c5 : t120 = true
    ·subst c5
     replace H : (if x3_1 > 0 then (if 0 ≤ (wrap64 (x3_1 - 1)) then (if (wrap64 (x3_1 - 1)) < (l0.length : Int) then (if ((Op.bytesLess (((rd_T177 l0 (wrap64 (x3_1 - 1))).f0).toList) (((rd_T177 l0 x3_1).f0).toList)) = true) then (spec_AreArticles.l0 k1 l0 (wrap64 (x3_1 + 1))) else (some false)) else (none)) else (none)) else (spec_AreArticles.l0 k1 l0 (wrap64 (x3_1 + 1)))) = some r := by rw [if_pos rfl] at H; exact H
     by_cases c6 : x3_1 > 0
     ·rw [if_pos c6] at H
      have c6b0 : decide (0 < x3_1) = true := decide_eq_true c6
      clear c6
      obtain ⟨ji7, hji7⟩ : ∃ j_ : Int, (wrap64 (x3_1 - 1)) = j_ := ⟨_, rfl⟩
      replace H : (if 0 ≤ (ji7) then (if (ji7) < (l0.length : Int) then (if ((Op.bytesLess (((rd_T177 l0 (ji7)).f0).toList) (((rd_T177 l0 x3_1).f0).toList)) = true) then (spec_AreArticles.l0 k1 l0 (wrap64 (x3_1 + 1))) else (some false)) else (none)) else (none)) = some r := by first | (rw [hji7] at H; exact H) | (simp only [hji7] at H ⊢; exact H)
      (try rw [hji7] at A4)
      have hji7w : (IntKind.i64.wrap (x3_1 - 1)) = ji7 := (i64_w _).trans hji7
      by_cases c8 : 0 ≤ (ji7)
      case neg =>
       rw [if_neg c8] at H
       exact absurd H (by simp)
      rw [if_pos c8] at H
      have c8b0 : decide (0 ≤ (ji7)) = true := decide_eq_true c8
      clear c8
      by_cases c9 : (ji7) < (l0.length : Int)
      case neg =>
       rw [if_neg c9] at H
       exact absurd H (by simp)
      rw [if_pos c9] at H
      have c9b0 : decide ((ji7) < (l0.length : Int)) = true := decide_eq_true c9
      clear c9
      by_cases c10 : ((Op.bytesLess (((rd_T177 l0 (ji7)).f0).toList) (((rd_T177 l0 x3_1).f0).toList)) = true)
      ·rw [if_pos c10] at H
       have c10b0 : (Op.bytesLess (((rd_T177 l0 (ji7)).f0).toList) (((rd_T177 l0 x3_1).f0).toList)) = true := c10
       clear c10
       have H' := Aside0.mk H
       clear H
       try go_wp2
       replace HB := Aside0.mk (below_drew1 HB.out)
       have p119 : 0 ≤ (x3_1 : Int) := od_
       have q119 : x3_1 < (l0.length : Int) := od_
       obtain ⟨ad119, e119, hx119_0, hx119_1, hx119_2, hx119_3, hx119_4, hx119_5, hx119_6, hx119_7, hx119_8⟩ := at_T177 HR0.out x3_1 p119 q119
       have hw119_8 := hx119_8
       have hw119_7 := hx119_7
       have hw119_6 := hx119_6
       have hw119_5 := hx119_5
       have hw119_4 := hx119_4
       have hw119_3 := hx119_3
       have hw119_2 := hx119_2
       have hw119_1 := hx119_1
       have hw119_0 := hx119_0
       cases e119
       replace hx119_0 := bc_ HB.out hx119_0
       replace hx119_1 := bc_ HB.out hx119_1
       replace hx119_2 := bc_ HB.out hx119_2
       replace hx119_3 := bc_ HB.out hx119_3
       replace hx119_4 := bc_ HB.out hx119_4
       replace hx119_5 := bc_ HB.out hx119_5
       replace hx119_6 := bc_ HB.out hx119_6
       replace hx119_7 := bc_ HB.out hx119_7
       replace hx119_8 := bc_ HB.out hx119_8
       replace p119 := eq_true p119
       replace q119 := eq_true q119
       have p121 : 0 ≤ ((ji7) : Int) := od_
       have q121 : (ji7) < (l0.length : Int) := od_
       obtain ⟨ad121, e121, hx121_0, hx121_1, hx121_2, hx121_3, hx121_4, hx121_5, hx121_6, hx121_7, hx121_8⟩ := at_T177 HR0.out (ji7) p121 q121
       have hw121_8 := hx121_8
       have hw121_7 := hx121_7
       have hw121_6 := hx121_6
       have hw121_5 := hx121_5
       have hw121_4 := hx121_4
       have hw121_3 := hx121_3
       have hw121_2 := hx121_2
       have hw121_1 := hx121_1
       have hw121_0 := hx121_0
       obtain rfl : ad119 = ad121 := (by injection e121)
       replace hx121_0 := bc_ HB.out hx121_0
       replace hx121_1 := bc_ HB.out hx121_1
       replace hx121_2 := bc_ HB.out hx121_2
       replace hx121_3 := bc_ HB.out hx121_3
       replace hx121_4 := bc_ HB.out hx121_4
       replace hx121_5 := bc_ HB.out hx121_5
       replace hx121_6 := bc_ HB.out hx121_6
       replace hx121_7 := bc_ HB.out hx121_7
       replace hx121_8 := bc_ HB.out hx121_8
       replace p121 := eq_true p121
       replace q121 := eq_true q121
       have p122 : 0 ≤ (x3_1 : Int) := od_
       have q122 : x3_1 < (l0.length : Int) := od_
       obtain ⟨ad122, e122, hx122_0, hx122_1, hx122_2, hx122_3, hx122_4, hx122_5, hx122_6, hx122_7, hx122_8⟩ := at_T177 HR0.out x3_1 p122 q122
       have hw122_8 := hx122_8
       have hw122_7 := hx122_7
       have hw122_6 := hx122_6
       have hw122_5 := hx122_5
       have hw122_4 := hx122_4
       have hw122_3 := hx122_3
       have hw122_2 := hx122_2
       have hw122_1 := hx122_1
       have hw122_0 := hx122_0
       obtain rfl : ad119 = ad122 := (by injection e122)
       replace hx122_0 := bc_ HB.out hx122_0
       replace hx122_1 := bc_ HB.out hx122_1
       replace hx122_2 := bc_ HB.out hx122_2
       replace hx122_3 := bc_ HB.out hx122_3
       replace hx122_4 := bc_ HB.out hx122_4
       replace hx122_5 := bc_ HB.out hx122_5
       replace hx122_6 := bc_ HB.out hx122_6
       replace hx122_7 := bc_ HB.out hx122_7
       replace hx122_8 := bc_ HB.out hx122_8
       replace p122 := eq_true p122
       replace q122 := eq_true q122
       refine start_ (n := 24) (S := fun w' => w'.cell? (ad119.add ((x3_1).toNat * 9)) = some (.string ((rd_T177 l0 x3_1).f0)) ∧ w'.cell? ⟨(ad119.add ((x3_1).toNat * 9)).block, (ad119.add ((x3_1).toNat * 9)).off + 1, none⟩ = some (.int .i64 ((rd_T177 l0 x3_1).f1)) ∧ w'.cell? ⟨(ad119.add ((x3_1).toNat * 9)).block, (ad119.add ((x3_1).toNat * 9)).off + 2, none⟩ = some (.int .i64 ((rd_T177 l0 x3_1).f2)) ∧ w'.cell? ⟨(ad119.add ((x3_1).toNat * 9)).block, (ad119.add ((x3_1).toNat * 9)).off + 3, none⟩ = some (.int .i64 ((rd_T177 l0 x3_1).f3)) ∧ w'.cell? ⟨(ad119.add ((x3_1).toNat * 9)).block, (ad119.add ((x3_1).toNat * 9)).off + 4, none⟩ = some (.int .i64 ((rd_T177 l0 x3_1).f4)) ∧ w'.cell? ⟨(ad119.add ((x3_1).toNat * 9)).block, (ad119.add ((x3_1).toNat * 9)).off + 5, none⟩ = some (.int .i64 ((rd_T177 l0 x3_1).f5)) ∧ w'.cell? ⟨(ad119.add ((x3_1).toNat * 9)).block, (ad119.add ((x3_1).toNat * 9)).off + 6, none⟩ = some (.int .i64 ((rd_T177 l0 x3_1).f6)) ∧ w'.cell? ⟨(ad119.add ((x3_1).toNat * 9)).block, (ad119.add ((x3_1).toNat * 9)).off + 7, none⟩ = some (.int .i64 ((rd_T177 l0 x3_1).f7)) ∧ w'.cell? ⟨(ad119.add ((x3_1).toNat * 9)).block, (ad119.add ((x3_1).toNat * 9)).off + 8, none⟩ = some (.int .i64 ((rd_T177 l0 x3_1).f8)) ∧ w'.cell? (ad119.add (((ji7)).toNat * 9)) = some (.string ((rd_T177 l0 (ji7)).f0)) ∧ w'.cell? ⟨(ad119.add (((ji7)).toNat * 9)).block, (ad119.add (((ji7)).toNat * 9)).off + 1, none⟩ = some (.int .i64 ((rd_T177 l0 (ji7)).f1)) ∧ w'.cell? ⟨(ad119.add (((ji7)).toNat * 9)).block, (ad119.add (((ji7)).toNat * 9)).off + 2, none⟩ = some (.int .i64 ((rd_T177 l0 (ji7)).f2)) ∧ w'.cell? ⟨(ad119.add (((ji7)).toNat * 9)).block, (ad119.add (((ji7)).toNat * 9)).off + 3, none⟩ = some (.int .i64 ((rd_T177 l0 (ji7)).f3)) ∧ w'.cell? ⟨(ad119.add (((ji7)).toNat * 9)).block, (ad119.add (((ji7)).toNat * 9)).off + 4, none⟩ = some (.int .i64 ((rd_T177 l0 (ji7)).f4)) ∧ w'.cell? ⟨(ad119.add (((ji7)).toNat * 9)).block, (ad119.add (((ji7)).toNat * 9)).off + 5, none⟩ = some (.int .i64 ((rd_T177 l0 (ji7)).f5)) ∧ w'.cell? ⟨(ad119.add (((ji7)).toNat * 9)).block, (ad119.add (((ji7)).toNat * 9)).off + 6, none⟩ = some (.int .i64 ((rd_T177 l0 (ji7)).f6)) ∧ w'.cell? ⟨(ad119.add (((ji7)).toNat * 9)).block, (ad119.add (((ji7)).toNat * 9)).off + 7, none⟩ = some (.int .i64 ((rd_T177 l0 (ji7)).f7)) ∧ w'.cell? ⟨(ad119.add (((ji7)).toNat * 9)).block, (ad119.add (((ji7)).toNat * 9)).off + 8, none⟩ = some (.int .i64 ((rd_T177 l0 (ji7)).f8)) ∧ w'.cell? (ad119.add ((x3_1).toNat * 9)) = some (.string ((rd_T177 l0 x3_1).f0)) ∧ w'.cell? ⟨(ad119.add ((x3_1).toNat * 9)).block, (ad119.add ((x3_1).toNat * 9)).off + 1, none⟩ = some (.int .i64 ((rd_T177 l0 x3_1).f1)) ∧ w'.cell? ⟨(ad119.add ((x3_1).toNat * 9)).block, (ad119.add ((x3_1).toNat * 9)).off + 2, none⟩ = some (.int .i64 ((rd_T177 l0 x3_1).f2)) ∧ w'.cell? ⟨(ad119.add ((x3_1).toNat * 9)).block, (ad119.add ((x3_1).toNat * 9)).off + 3, none⟩ = some (.int .i64 ((rd_T177 l0 x3_1).f3)) ∧ w'.cell? ⟨(ad119.add ((x3_1).toNat * 9)).block, (ad119.add ((x3_1).toNat * 9)).off + 4, none⟩ = some (.int .i64 ((rd_T177 l0 x3_1).f4)) ∧ w'.cell? ⟨(ad119.add ((x3_1).toNat * 9)).block, (ad119.add ((x3_1).toNat * 9)).off + 5, none⟩ = some (.int .i64 ((rd_T177 l0 x3_1).f5)) ∧ w'.cell? ⟨(ad119.add ((x3_1).toNat * 9)).block, (ad119.add ((x3_1).toNat * 9)).off + 6, none⟩ = some (.int .i64 ((rd_T177 l0 x3_1).f6)) ∧ w'.cell? ⟨(ad119.add ((x3_1).toNat * 9)).block, (ad119.add ((x3_1).toNat * 9)).off + 7, none⟩ = some (.int .i64 ((rd_T177 l0 x3_1).f7)) ∧ w'.cell? ⟨(ad119.add ((x3_1).toNat * 9)).block, (ad119.add ((x3_1).toNat * 9)).off + 8, none⟩ = some (.int .i64 ((rd_T177 l0 x3_1).f8))) (ds := []) #[f_,f_,f_,f_,f_,f_,f_,f_,f_,f_,f_,f_,f_,f_,f_,f_,f_,f_,f_,f_,f_,f_,f_,f_] (by kernel_rfl) rfl rfl ⟨(bc_ HB.out hw119_0 :), (bc_ HB.out hw119_1 :), (bc_ HB.out hw119_2 :), (bc_ HB.out hw119_3 :), (bc_ HB.out hw119_4 :), (bc_ HB.out hw119_5 :), (bc_ HB.out hw119_6 :), (bc_ HB.out hw119_7 :), (bc_ HB.out hw119_8 :), (bc_ HB.out hw121_0 :), (bc_ HB.out hw121_1 :), (bc_ HB.out hw121_2 :), (bc_ HB.out hw121_3 :), (bc_ HB.out hw121_4 :), (bc_ HB.out hw121_5 :), (bc_ HB.out hw121_6 :), (bc_ HB.out hw121_7 :), (bc_ HB.out hw121_8 :), (bc_ HB.out hw122_0 :), (bc_ HB.out hw122_1 :), (bc_ HB.out hw122_2 :), (bc_ HB.out hw122_3 :), (bc_ HB.out hw122_4 :), (bc_ HB.out hw122_5 :), (bc_ HB.out hw122_6 :), (bc_ HB.out hw122_7 :), (bc_ HB.out hw122_8 :)⟩ (fun hHeld => ?_); refine with_tabW spec_AreArticles.tab4 spec_AreArticles.bits4 (fun HT_ HW_ => ?_)
       generalize wr.drew = w11 at HB hx119_0 hx119_1 hx119_2 hx119_3 hx119_4 hx119_5 hx119_6 hx119_7 hx119_8 hx121_0 hx121_1 hx121_2 hx121_3 hx121_4 hx121_5 hx121_6 hx121_7 hx121_8 hx122_0 hx122_1 hx122_2 hx122_3 hx122_4 hx122_5 hx122_6 hx122_7 hx122_8 hHeld ⊢
       refine pu_ 0 10 #[t_,f_,f_,f_,f_,f_,f_,f_,f_,f_,f_,f_,f_,f_,f_,f_,f_,f_,f_,f_,f_,f_,f_,f_] HT_.out ?_
       refine pu_ 1 11 #[t_,t_,f_,f_,f_,f_,f_,f_,f_,f_,f_,f_,f_,f_,f_,f_,f_,f_,f_,f_,f_,f_,f_,f_] HT_.out ?_
       refine pu_ 2 12 #[t_,t_,t_,f_,f_,f_,f_,f_,f_,f_,f_,f_,f_,f_,f_,f_,f_,f_,f_,f_,f_,f_,f_,f_] HT_.out ?_
       refine take_ (i := 3) (N := some 13) (v := ?_) (a' := ?_) #[t_,t_,t_,t_,f_,f_,f_,f_,f_,f_,f_,f_,f_,f_,f_,f_,f_,f_,f_,f_,f_,f_,f_,f_] rfl rfl (take_ofW HT_.out HW_.out (by kernel_rfl)) (fun _ _ _ h => h) (Or.inl ⟨by rfl, ?_⟩) hHeld ?_ ?_
       rotate_left
       ·rintro w' ⟨s0, s1, s2, s3, s4, s5, s6, s7, s8, s9, s10, s11, s12, s13, s14, s15, s16, s17, s18, s19, s20, s21, s22, s23, s24, s25, s26⟩
        go_simp
        with_reducible rfl
       rotate_left
       ·simp only [pz_]
        rfl
       refine one_ (i := 4) (N := some 14) #[t_,t_,t_,t_,t_,f_,f_,f_,f_,f_,f_,f_,f_,f_,f_,f_,f_,f_,f_,f_,f_,f_,f_,f_] rfl rfl (one_of HT_.out (by kernel_rfl)) (by decide) (fun K hK => ?_)
       refine goes_ Try.func193 (by kernel_rfl) rfl #[.agg #[.string ((rd_T177 l0 x3_1).f0), .int .i64 ((rd_T177 l0 x3_1).f1), .int .i64 ((rd_T177 l0 x3_1).f2), .int .i64 ((rd_T177 l0 x3_1).f3), .int .i64 ((rd_T177 l0 x3_1).f4), .int .i64 ((rd_T177 l0 x3_1).f5), .int .i64 ((rd_T177 l0 x3_1).f6), .int .i64 ((rd_T177 l0 x3_1).f7), .int .i64 ((rd_T177 l0 x3_1).f8)]] (by rfl) rfl rfl ag_ ?_
       with_reducible refine (spec_IsArticle.calls k1 ((rd_T177 l0 x3_1).f0) ((rd_T177 l0 x3_1).f1) ((rd_T177 l0 x3_1).f2) ((rd_T177 l0 x3_1).f3) ((rd_T177 l0 x3_1).f4) ((rd_T177 l0 x3_1).f5) ((rd_T177 l0 x3_1).f6) ((rd_T177 l0 x3_1).f7) ((rd_T177 l0 x3_1).f8) true _ A4.out).mono ?_
       rintro e w12 ⟨rfl, hb⟩
       refine ⟨_, rfl, ?_⟩
       replace HB := Aside0.mk (below_step (bl_ HB.out) hb)
       (try clear hb)
       (try clear hb2)
       (try clear hk)
       (try clear hi)
       refine hK.out _ _ ⟨(bc_ HB.out hw119_0 :), (bc_ HB.out hw119_1 :), (bc_ HB.out hw119_2 :), (bc_ HB.out hw119_3 :), (bc_ HB.out hw119_4 :), (bc_ HB.out hw119_5 :), (bc_ HB.out hw119_6 :), (bc_ HB.out hw119_7 :), (bc_ HB.out hw119_8 :), (bc_ HB.out hw121_0 :), (bc_ HB.out hw121_1 :), (bc_ HB.out hw121_2 :), (bc_ HB.out hw121_3 :), (bc_ HB.out hw121_4 :), (bc_ HB.out hw121_5 :), (bc_ HB.out hw121_6 :), (bc_ HB.out hw121_7 :), (bc_ HB.out hw121_8 :), (bc_ HB.out hw122_0 :), (bc_ HB.out hw122_1 :), (bc_ HB.out hw122_2 :), (bc_ HB.out hw122_3 :), (bc_ HB.out hw122_4 :), (bc_ HB.out hw122_5 :), (bc_ HB.out hw122_6 :), (bc_ HB.out hw122_7 :), (bc_ HB.out hw122_8 :)⟩ (fun hHeld => ?_)
       clear hK K
       refine norm_ (a' := ?_) ?_ ?_
       rotate_left
       ·show Act.put _ (some 14) _ = _
        simp only [pz_]
        rfl
       refine pu_ 5 15 #[t_,t_,t_,t_,t_,t_,f_,f_,f_,f_,f_,f_,f_,f_,f_,f_,f_,f_,f_,f_,f_,f_,f_,f_] HT_.out ?_
       refine pu_ 6 16 #[t_,t_,t_,t_,t_,t_,t_,f_,f_,f_,f_,f_,f_,f_,f_,f_,f_,f_,f_,f_,f_,f_,f_,f_] HT_.out ?_
       refine pu_ 7 17 #[t_,t_,t_,t_,t_,t_,t_,t_,f_,f_,f_,f_,f_,f_,f_,f_,f_,f_,f_,f_,f_,f_,f_,f_] HT_.out ?_
       refine pu_ 8 18 #[t_,t_,t_,t_,t_,t_,t_,t_,t_,f_,f_,f_,f_,f_,f_,f_,f_,f_,f_,f_,f_,f_,f_,f_] HT_.out ?_
       refine pu_ 9 19 #[t_,t_,t_,t_,t_,t_,t_,t_,t_,t_,f_,f_,f_,f_,f_,f_,f_,f_,f_,f_,f_,f_,f_,f_] HT_.out ?_
       refine pu_ 10 20 #[t_,t_,t_,t_,t_,t_,t_,t_,t_,t_,t_,f_,f_,f_,f_,f_,f_,f_,f_,f_,f_,f_,f_,f_] HT_.out ?_
       refine pu_ 11 21 #[t_,t_,t_,t_,t_,t_,t_,t_,t_,t_,t_,t_,f_,f_,f_,f_,f_,f_,f_,f_,f_,f_,f_,f_] HT_.out ?_
       refine pu_ 12 22 #[t_,t_,t_,t_,t_,t_,t_,t_,t_,t_,t_,t_,t_,f_,f_,f_,f_,f_,f_,f_,f_,f_,f_,f_] HT_.out ?_
       refine pu_ 13 23 #[t_,t_,t_,t_,t_,t_,t_,t_,t_,t_,t_,t_,t_,t_,f_,f_,f_,f_,f_,f_,f_,f_,f_,f_] HT_.out ?_
       refine pu_ 14 24 #[t_,t_,t_,t_,t_,t_,t_,t_,t_,t_,t_,t_,t_,t_,t_,f_,f_,f_,f_,f_,f_,f_,f_,f_] HT_.out ?_
       refine pu_ 16 26 #[t_,t_,t_,t_,t_,t_,t_,t_,t_,t_,t_,t_,t_,t_,t_,f_,t_,f_,f_,f_,f_,f_,f_,f_] HT_.out ?_
       refine pu_ 17 27 #[t_,t_,t_,t_,t_,t_,t_,t_,t_,t_,t_,t_,t_,t_,t_,f_,t_,t_,f_,f_,f_,f_,f_,f_] HT_.out ?_
       refine pu_ 18 28 #[t_,t_,t_,t_,t_,t_,t_,t_,t_,t_,t_,t_,t_,t_,t_,f_,t_,t_,t_,f_,f_,f_,f_,f_] HT_.out ?_
       refine pu_ 19 29 #[t_,t_,t_,t_,t_,t_,t_,t_,t_,t_,t_,t_,t_,t_,t_,f_,t_,t_,t_,t_,f_,f_,f_,f_] HT_.out ?_
       refine take_ (i := 15) (N := some 25) (v := ?_) (a' := ?_) #[t_,t_,t_,t_,t_,t_,t_,t_,t_,t_,t_,t_,t_,t_,t_,t_,t_,t_,t_,t_,f_,f_,f_,f_] rfl rfl (take_ofW HT_.out HW_.out (by kernel_rfl)) (fun _ _ _ h => h) (Or.inl ⟨by rfl, ?_⟩) hHeld ?_ ?_
       rotate_left
       ·rintro w' ⟨s0, s1, s2, s3, s4, s5, s6, s7, s8, s9, s10, s11, s12, s13, s14, s15, s16, s17, s18, s19, s20, s21, s22, s23, s24, s25, s26⟩
        go_simp
        with_reducible rfl
       rotate_left
       ·simp only [pz_]
        rfl
       refine take_ (i := 20) (N := some 30) (v := ?_) (a' := ?_) #[t_,t_,t_,t_,t_,t_,t_,t_,t_,t_,t_,t_,t_,t_,t_,t_,t_,t_,t_,t_,t_,f_,f_,f_] rfl rfl (take_ofW HT_.out HW_.out (by kernel_rfl)) (fun _ _ _ h => h) (Or.inl ⟨by rfl, ?_⟩) hHeld ?_ ?_
       rotate_left
       ·rintro w' ⟨s0, s1, s2, s3, s4, s5, s6, s7, s8, s9, s10, s11, s12, s13, s14, s15, s16, s17, s18, s19, s20, s21, s22, s23, s24, s25, s26⟩
        go_simp
        with_reducible rfl
       rotate_left
       ·simp only [pz_]
        rfl
       refine pu_ 21 31 #[t_,t_,t_,t_,t_,t_,t_,t_,t_,t_,t_,t_,t_,t_,t_,t_,t_,t_,t_,t_,t_,t_,f_,f_] HT_.out ?_
       refine pu_ 22 32 #[t_,t_,t_,t_,t_,t_,t_,t_,t_,t_,t_,t_,t_,t_,t_,t_,t_,t_,t_,t_,t_,t_,t_,f_] HT_.out ?_
       refine pu_ 23 33 #[t_,t_,t_,t_,t_,t_,t_,t_,t_,t_,t_,t_,t_,t_,t_,t_,t_,t_,t_,t_,t_,t_,t_,t_] HT_.out ?_
       refine done_ (done_of HT_.out (by kernel_rfl)) ?_
       try go_wp2
       go_roundg k1
       case measure => have := HK1.out; omega
       case rel => exact ⟨(wrap64 (x3_1 + 1)), (by first | rfl | (simp; done) | (simp [*]; done)), H', ⟨by have := HK1.out; omega⟩, ⟨bl_ HB.out⟩⟩
      ·rw [if_neg c10] at H
       have c10b0 : (Op.bytesLess (((rd_T177 l0 (ji7)).f0).toList) (((rd_T177 l0 x3_1).f0).toList)) = false := by simpa using c10
       clear c10
       obtain rfl := Option.some.inj H
       try go_wp2
       replace HB := Aside0.mk (below_drew1 HB.out)
       have p119 : 0 ≤ (x3_1 : Int) := od_
       have q119 : x3_1 < (l0.length : Int) := od_
       obtain ⟨ad119, e119, hx119_0, hx119_1, hx119_2, hx119_3, hx119_4, hx119_5, hx119_6, hx119_7, hx119_8⟩ := at_T177 HR0.out x3_1 p119 q119
       have hw119_8 := hx119_8
       have hw119_7 := hx119_7
       have hw119_6 := hx119_6
       have hw119_5 := hx119_5
       have hw119_4 := hx119_4
       have hw119_3 := hx119_3
       have hw119_2 := hx119_2
       have hw119_1 := hx119_1
       have hw119_0 := hx119_0
       cases e119
       replace hx119_0 := bc_ HB.out hx119_0
       replace hx119_1 := bc_ HB.out hx119_1
       replace hx119_2 := bc_ HB.out hx119_2
       replace hx119_3 := bc_ HB.out hx119_3
       replace hx119_4 := bc_ HB.out hx119_4
       replace hx119_5 := bc_ HB.out hx119_5
       replace hx119_6 := bc_ HB.out hx119_6
       replace hx119_7 := bc_ HB.out hx119_7
       replace hx119_8 := bc_ HB.out hx119_8
       replace p119 := eq_true p119
       replace q119 := eq_true q119
       have p121 : 0 ≤ ((ji7) : Int) := od_
       have q121 : (ji7) < (l0.length : Int) := od_
       obtain ⟨ad121, e121, hx121_0, hx121_1, hx121_2, hx121_3, hx121_4, hx121_5, hx121_6, hx121_7, hx121_8⟩ := at_T177 HR0.out (ji7) p121 q121
       have hw121_8 := hx121_8
       have hw121_7 := hx121_7
       have hw121_6 := hx121_6
       have hw121_5 := hx121_5
       have hw121_4 := hx121_4
       have hw121_3 := hx121_3
       have hw121_2 := hx121_2
       have hw121_1 := hx121_1
       have hw121_0 := hx121_0
       obtain rfl : ad119 = ad121 := (by injection e121)
       replace hx121_0 := bc_ HB.out hx121_0
       replace hx121_1 := bc_ HB.out hx121_1
       replace hx121_2 := bc_ HB.out hx121_2
       replace hx121_3 := bc_ HB.out hx121_3
       replace hx121_4 := bc_ HB.out hx121_4
       replace hx121_5 := bc_ HB.out hx121_5
       replace hx121_6 := bc_ HB.out hx121_6
       replace hx121_7 := bc_ HB.out hx121_7
       replace hx121_8 := bc_ HB.out hx121_8
       replace p121 := eq_true p121
       replace q121 := eq_true q121
       have p122 : 0 ≤ (x3_1 : Int) := od_
       have q122 : x3_1 < (l0.length : Int) := od_
       obtain ⟨ad122, e122, hx122_0, hx122_1, hx122_2, hx122_3, hx122_4, hx122_5, hx122_6, hx122_7, hx122_8⟩ := at_T177 HR0.out x3_1 p122 q122
       have hw122_8 := hx122_8
       have hw122_7 := hx122_7
       have hw122_6 := hx122_6
       have hw122_5 := hx122_5
       have hw122_4 := hx122_4
       have hw122_3 := hx122_3
       have hw122_2 := hx122_2
       have hw122_1 := hx122_1
       have hw122_0 := hx122_0
       obtain rfl : ad119 = ad122 := (by injection e122)
       replace hx122_0 := bc_ HB.out hx122_0
       replace hx122_1 := bc_ HB.out hx122_1
       replace hx122_2 := bc_ HB.out hx122_2
       replace hx122_3 := bc_ HB.out hx122_3
       replace hx122_4 := bc_ HB.out hx122_4
       replace hx122_5 := bc_ HB.out hx122_5
       replace hx122_6 := bc_ HB.out hx122_6
       replace hx122_7 := bc_ HB.out hx122_7
       replace hx122_8 := bc_ HB.out hx122_8
       replace p122 := eq_true p122
       replace q122 := eq_true q122
       refine start_ (n := 24) (S := fun w' => w'.cell? (ad119.add ((x3_1).toNat * 9)) = some (.string ((rd_T177 l0 x3_1).f0)) ∧ w'.cell? ⟨(ad119.add ((x3_1).toNat * 9)).block, (ad119.add ((x3_1).toNat * 9)).off + 1, none⟩ = some (.int .i64 ((rd_T177 l0 x3_1).f1)) ∧ w'.cell? ⟨(ad119.add ((x3_1).toNat * 9)).block, (ad119.add ((x3_1).toNat * 9)).off + 2, none⟩ = some (.int .i64 ((rd_T177 l0 x3_1).f2)) ∧ w'.cell? ⟨(ad119.add ((x3_1).toNat * 9)).block, (ad119.add ((x3_1).toNat * 9)).off + 3, none⟩ = some (.int .i64 ((rd_T177 l0 x3_1).f3)) ∧ w'.cell? ⟨(ad119.add ((x3_1).toNat * 9)).block, (ad119.add ((x3_1).toNat * 9)).off + 4, none⟩ = some (.int .i64 ((rd_T177 l0 x3_1).f4)) ∧ w'.cell? ⟨(ad119.add ((x3_1).toNat * 9)).block, (ad119.add ((x3_1).toNat * 9)).off + 5, none⟩ = some (.int .i64 ((rd_T177 l0 x3_1).f5)) ∧ w'.cell? ⟨(ad119.add ((x3_1).toNat * 9)).block, (ad119.add ((x3_1).toNat * 9)).off + 6, none⟩ = some (.int .i64 ((rd_T177 l0 x3_1).f6)) ∧ w'.cell? ⟨(ad119.add ((x3_1).toNat * 9)).block, (ad119.add ((x3_1).toNat * 9)).off + 7, none⟩ = some (.int .i64 ((rd_T177 l0 x3_1).f7)) ∧ w'.cell? ⟨(ad119.add ((x3_1).toNat * 9)).block, (ad119.add ((x3_1).toNat * 9)).off + 8, none⟩ = some (.int .i64 ((rd_T177 l0 x3_1).f8)) ∧ w'.cell? (ad119.add (((ji7)).toNat * 9)) = some (.string ((rd_T177 l0 (ji7)).f0)) ∧ w'.cell? ⟨(ad119.add (((ji7)).toNat * 9)).block, (ad119.add (((ji7)).toNat * 9)).off + 1, none⟩ = some (.int .i64 ((rd_T177 l0 (ji7)).f1)) ∧ w'.cell? ⟨(ad119.add (((ji7)).toNat * 9)).block, (ad119.add (((ji7)).toNat * 9)).off + 2, none⟩ = some (.int .i64 ((rd_T177 l0 (ji7)).f2)) ∧ w'.cell? ⟨(ad119.add (((ji7)).toNat * 9)).block, (ad119.add (((ji7)).toNat * 9)).off + 3, none⟩ = some (.int .i64 ((rd_T177 l0 (ji7)).f3)) ∧ w'.cell? ⟨(ad119.add (((ji7)).toNat * 9)).block, (ad119.add (((ji7)).toNat * 9)).off + 4, none⟩ = some (.int .i64 ((rd_T177 l0 (ji7)).f4)) ∧ w'.cell? ⟨(ad119.add (((ji7)).toNat * 9)).block, (ad119.add (((ji7)).toNat * 9)).off + 5, none⟩ = some (.int .i64 ((rd_T177 l0 (ji7)).f5)) ∧ w'.cell? ⟨(ad119.add (((ji7)).toNat * 9)).block, (ad119.add (((ji7)).toNat * 9)).off + 6, none⟩ = some (.int .i64 ((rd_T177 l0 (ji7)).f6)) ∧ w'.cell? ⟨(ad119.add (((ji7)).toNat * 9)).block, (ad119.add (((ji7)).toNat * 9)).off + 7, none⟩ = some (.int .i64 ((rd_T177 l0 (ji7)).f7)) ∧ w'.cell? ⟨(ad119.add (((ji7)).toNat * 9)).block, (ad119.add (((ji7)).toNat * 9)).off + 8, none⟩ = some (.int .i64 ((rd_T177 l0 (ji7)).f8)) ∧ w'.cell? (ad119.add ((x3_1).toNat * 9)) = some (.string ((rd_T177 l0 x3_1).f0)) ∧ w'.cell? ⟨(ad119.add ((x3_1).toNat * 9)).block, (ad119.add ((x3_1).toNat * 9)).off + 1, none⟩ = some (.int .i64 ((rd_T177 l0 x3_1).f1)) ∧ w'.cell? ⟨(ad119.add ((x3_1).toNat * 9)).block, (ad119.add ((x3_1).toNat * 9)).off + 2, none⟩ = some (.int .i64 ((rd_T177 l0 x3_1).f2)) ∧ w'.cell? ⟨(ad119.add ((x3_1).toNat * 9)).block, (ad119.add ((x3_1).toNat * 9)).off + 3, none⟩ = some (.int .i64 ((rd_T177 l0 x3_1).f3)) ∧ w'.cell? ⟨(ad119.add ((x3_1).toNat * 9)).block, (ad119.add ((x3_1).toNat * 9)).off + 4, none⟩ = some (.int .i64 ((rd_T177 l0 x3_1).f4)) ∧ w'.cell? ⟨(ad119.add ((x3_1).toNat * 9)).block, (ad119.add ((x3_1).toNat * 9)).off + 5, none⟩ = some (.int .i64 ((rd_T177 l0 x3_1).f5)) ∧ w'.cell? ⟨(ad119.add ((x3_1).toNat * 9)).block, (ad119.add ((x3_1).toNat * 9)).off + 6, none⟩ = some (.int .i64 ((rd_T177 l0 x3_1).f6)) ∧ w'.cell? ⟨(ad119.add ((x3_1).toNat * 9)).block, (ad119.add ((x3_1).toNat * 9)).off + 7, none⟩ = some (.int .i64 ((rd_T177 l0 x3_1).f7)) ∧ w'.cell? ⟨(ad119.add ((x3_1).toNat * 9)).block, (ad119.add ((x3_1).toNat * 9)).off + 8, none⟩ = some (.int .i64 ((rd_T177 l0 x3_1).f8))) (ds := []) #[f_,f_,f_,f_,f_,f_,f_,f_,f_,f_,f_,f_,f_,f_,f_,f_,f_,f_,f_,f_,f_,f_,f_,f_] (by kernel_rfl) rfl rfl ⟨(bc_ HB.out hw119_0 :), (bc_ HB.out hw119_1 :), (bc_ HB.out hw119_2 :), (bc_ HB.out hw119_3 :), (bc_ HB.out hw119_4 :), (bc_ HB.out hw119_5 :), (bc_ HB.out hw119_6 :), (bc_ HB.out hw119_7 :), (bc_ HB.out hw119_8 :), (bc_ HB.out hw121_0 :), (bc_ HB.out hw121_1 :), (bc_ HB.out hw121_2 :), (bc_ HB.out hw121_3 :), (bc_ HB.out hw121_4 :), (bc_ HB.out hw121_5 :), (bc_ HB.out hw121_6 :), (bc_ HB.out hw121_7 :), (bc_ HB.out hw121_8 :), (bc_ HB.out hw122_0 :), (bc_ HB.out hw122_1 :), (bc_ HB.out hw122_2 :), (bc_ HB.out hw122_3 :), (bc_ HB.out hw122_4 :), (bc_ HB.out hw122_5 :), (bc_ HB.out hw122_6 :), (bc_ HB.out hw122_7 :), (bc_ HB.out hw122_8 :)⟩ (fun hHeld => ?_); refine with_tabW spec_AreArticles.tab4 spec_AreArticles.bits4 (fun HT_ HW_ => ?_)
       generalize wr.drew = w13 at HB hx119_0 hx119_1 hx119_2 hx119_3 hx119_4 hx119_5 hx119_6 hx119_7 hx119_8 hx121_0 hx121_1 hx121_2 hx121_3 hx121_4 hx121_5 hx121_6 hx121_7 hx121_8 hx122_0 hx122_1 hx122_2 hx122_3 hx122_4 hx122_5 hx122_6 hx122_7 hx122_8 hHeld ⊢
       refine pu_ 0 10 #[t_,f_,f_,f_,f_,f_,f_,f_,f_,f_,f_,f_,f_,f_,f_,f_,f_,f_,f_,f_,f_,f_,f_,f_] HT_.out ?_
       refine pu_ 1 11 #[t_,t_,f_,f_,f_,f_,f_,f_,f_,f_,f_,f_,f_,f_,f_,f_,f_,f_,f_,f_,f_,f_,f_,f_] HT_.out ?_
       refine pu_ 2 12 #[t_,t_,t_,f_,f_,f_,f_,f_,f_,f_,f_,f_,f_,f_,f_,f_,f_,f_,f_,f_,f_,f_,f_,f_] HT_.out ?_
       refine take_ (i := 3) (N := some 13) (v := ?_) (a' := ?_) #[t_,t_,t_,t_,f_,f_,f_,f_,f_,f_,f_,f_,f_,f_,f_,f_,f_,f_,f_,f_,f_,f_,f_,f_] rfl rfl (take_ofW HT_.out HW_.out (by kernel_rfl)) (fun _ _ _ h => h) (Or.inl ⟨by rfl, ?_⟩) hHeld ?_ ?_
       rotate_left
       ·rintro w' ⟨s0, s1, s2, s3, s4, s5, s6, s7, s8, s9, s10, s11, s12, s13, s14, s15, s16, s17, s18, s19, s20, s21, s22, s23, s24, s25, s26⟩
        go_simp
        with_reducible rfl
       rotate_left
       ·simp only [pz_]
        rfl
       refine one_ (i := 4) (N := some 14) #[t_,t_,t_,t_,t_,f_,f_,f_,f_,f_,f_,f_,f_,f_,f_,f_,f_,f_,f_,f_,f_,f_,f_,f_] rfl rfl (one_of HT_.out (by kernel_rfl)) (by decide) (fun K hK => ?_)
       refine goes_ Try.func193 (by kernel_rfl) rfl #[.agg #[.string ((rd_T177 l0 x3_1).f0), .int .i64 ((rd_T177 l0 x3_1).f1), .int .i64 ((rd_T177 l0 x3_1).f2), .int .i64 ((rd_T177 l0 x3_1).f3), .int .i64 ((rd_T177 l0 x3_1).f4), .int .i64 ((rd_T177 l0 x3_1).f5), .int .i64 ((rd_T177 l0 x3_1).f6), .int .i64 ((rd_T177 l0 x3_1).f7), .int .i64 ((rd_T177 l0 x3_1).f8)]] (by rfl) rfl rfl ag_ ?_
       with_reducible refine (spec_IsArticle.calls k1 ((rd_T177 l0 x3_1).f0) ((rd_T177 l0 x3_1).f1) ((rd_T177 l0 x3_1).f2) ((rd_T177 l0 x3_1).f3) ((rd_T177 l0 x3_1).f4) ((rd_T177 l0 x3_1).f5) ((rd_T177 l0 x3_1).f6) ((rd_T177 l0 x3_1).f7) ((rd_T177 l0 x3_1).f8) true _ A4.out).mono ?_
       rintro e w14 ⟨rfl, hb⟩
       refine ⟨_, rfl, ?_⟩
       replace HB := Aside0.mk (below_step (bl_ HB.out) hb)
       (try clear hb)
       (try clear hb2)
       (try clear hk)
       (try clear hi)
       refine hK.out _ _ ⟨(bc_ HB.out hw119_0 :), (bc_ HB.out hw119_1 :), (bc_ HB.out hw119_2 :), (bc_ HB.out hw119_3 :), (bc_ HB.out hw119_4 :), (bc_ HB.out hw119_5 :), (bc_ HB.out hw119_6 :), (bc_ HB.out hw119_7 :), (bc_ HB.out hw119_8 :), (bc_ HB.out hw121_0 :), (bc_ HB.out hw121_1 :), (bc_ HB.out hw121_2 :), (bc_ HB.out hw121_3 :), (bc_ HB.out hw121_4 :), (bc_ HB.out hw121_5 :), (bc_ HB.out hw121_6 :), (bc_ HB.out hw121_7 :), (bc_ HB.out hw121_8 :), (bc_ HB.out hw122_0 :), (bc_ HB.out hw122_1 :), (bc_ HB.out hw122_2 :), (bc_ HB.out hw122_3 :), (bc_ HB.out hw122_4 :), (bc_ HB.out hw122_5 :), (bc_ HB.out hw122_6 :), (bc_ HB.out hw122_7 :), (bc_ HB.out hw122_8 :)⟩ (fun hHeld => ?_)
       clear hK K
       refine norm_ (a' := ?_) ?_ ?_
       rotate_left
       ·show Act.put _ (some 14) _ = _
        simp only [pz_]
        rfl
       refine pu_ 5 15 #[t_,t_,t_,t_,t_,t_,f_,f_,f_,f_,f_,f_,f_,f_,f_,f_,f_,f_,f_,f_,f_,f_,f_,f_] HT_.out ?_
       refine pu_ 6 16 #[t_,t_,t_,t_,t_,t_,t_,f_,f_,f_,f_,f_,f_,f_,f_,f_,f_,f_,f_,f_,f_,f_,f_,f_] HT_.out ?_
       refine pu_ 7 17 #[t_,t_,t_,t_,t_,t_,t_,t_,f_,f_,f_,f_,f_,f_,f_,f_,f_,f_,f_,f_,f_,f_,f_,f_] HT_.out ?_
       refine pu_ 8 18 #[t_,t_,t_,t_,t_,t_,t_,t_,t_,f_,f_,f_,f_,f_,f_,f_,f_,f_,f_,f_,f_,f_,f_,f_] HT_.out ?_
       refine pu_ 9 19 #[t_,t_,t_,t_,t_,t_,t_,t_,t_,t_,f_,f_,f_,f_,f_,f_,f_,f_,f_,f_,f_,f_,f_,f_] HT_.out ?_
       refine pu_ 10 20 #[t_,t_,t_,t_,t_,t_,t_,t_,t_,t_,t_,f_,f_,f_,f_,f_,f_,f_,f_,f_,f_,f_,f_,f_] HT_.out ?_
       refine pu_ 11 21 #[t_,t_,t_,t_,t_,t_,t_,t_,t_,t_,t_,t_,f_,f_,f_,f_,f_,f_,f_,f_,f_,f_,f_,f_] HT_.out ?_
       refine pu_ 12 22 #[t_,t_,t_,t_,t_,t_,t_,t_,t_,t_,t_,t_,t_,f_,f_,f_,f_,f_,f_,f_,f_,f_,f_,f_] HT_.out ?_
       refine pu_ 13 23 #[t_,t_,t_,t_,t_,t_,t_,t_,t_,t_,t_,t_,t_,t_,f_,f_,f_,f_,f_,f_,f_,f_,f_,f_] HT_.out ?_
       refine pu_ 14 24 #[t_,t_,t_,t_,t_,t_,t_,t_,t_,t_,t_,t_,t_,t_,t_,f_,f_,f_,f_,f_,f_,f_,f_,f_] HT_.out ?_
       refine pu_ 16 26 #[t_,t_,t_,t_,t_,t_,t_,t_,t_,t_,t_,t_,t_,t_,t_,f_,t_,f_,f_,f_,f_,f_,f_,f_] HT_.out ?_
       refine pu_ 17 27 #[t_,t_,t_,t_,t_,t_,t_,t_,t_,t_,t_,t_,t_,t_,t_,f_,t_,t_,f_,f_,f_,f_,f_,f_] HT_.out ?_
       refine pu_ 18 28 #[t_,t_,t_,t_,t_,t_,t_,t_,t_,t_,t_,t_,t_,t_,t_,f_,t_,t_,t_,f_,f_,f_,f_,f_] HT_.out ?_
       refine pu_ 19 29 #[t_,t_,t_,t_,t_,t_,t_,t_,t_,t_,t_,t_,t_,t_,t_,f_,t_,t_,t_,t_,f_,f_,f_,f_] HT_.out ?_
       refine take_ (i := 15) (N := some 25) (v := ?_) (a' := ?_) #[t_,t_,t_,t_,t_,t_,t_,t_,t_,t_,t_,t_,t_,t_,t_,t_,t_,t_,t_,t_,f_,f_,f_,f_] rfl rfl (take_ofW HT_.out HW_.out (by kernel_rfl)) (fun _ _ _ h => h) (Or.inl ⟨by rfl, ?_⟩) hHeld ?_ ?_
       rotate_left
       ·rintro w' ⟨s0, s1, s2, s3, s4, s5, s6, s7, s8, s9, s10, s11, s12, s13, s14, s15, s16, s17, s18, s19, s20, s21, s22, s23, s24, s25, s26⟩
        go_simp
        with_reducible rfl
       rotate_left
       ·simp only [pz_]
        rfl
       refine take_ (i := 20) (N := some 30) (v := ?_) (a' := ?_) #[t_,t_,t_,t_,t_,t_,t_,t_,t_,t_,t_,t_,t_,t_,t_,t_,t_,t_,t_,t_,t_,f_,f_,f_] rfl rfl (take_ofW HT_.out HW_.out (by kernel_rfl)) (fun _ _ _ h => h) (Or.inl ⟨by rfl, ?_⟩) hHeld ?_ ?_
       rotate_left
       ·rintro w' ⟨s0, s1, s2, s3, s4, s5, s6, s7, s8, s9, s10, s11, s12, s13, s14, s15, s16, s17, s18, s19, s20, s21, s22, s23, s24, s25, s26⟩
        go_simp
        with_reducible rfl
       rotate_left
       ·simp only [pz_]
        rfl
       refine pu_ 21 31 #[t_,t_,t_,t_,t_,t_,t_,t_,t_,t_,t_,t_,t_,t_,t_,t_,t_,t_,t_,t_,t_,t_,f_,f_] HT_.out ?_
       refine pu_ 22 32 #[t_,t_,t_,t_,t_,t_,t_,t_,t_,t_,t_,t_,t_,t_,t_,t_,t_,t_,t_,t_,t_,t_,t_,f_] HT_.out ?_
       refine pu_ 23 33 #[t_,t_,t_,t_,t_,t_,t_,t_,t_,t_,t_,t_,t_,t_,t_,t_,t_,t_,t_,t_,t_,t_,t_,t_] HT_.out ?_
       refine done_ (done_of HT_.out (by kernel_rfl)) ?_
       try go_wp2
       go_ret
       exact ⟨by first | rfl | (simp [errW_none, errW_some] <;> rfl) | (simp only [← hji7]; first | rfl | (simp [errW_none, errW_some] <;> rfl)) | (simp [*, errW_none, errW_some] <;> rfl), bl_ HB.out⟩
     ·rw [if_neg c6] at H
      have c6b0 : decide (0 < x3_1) = false := decide_eq_false c6
      clear c6
      have H' := Aside0.mk H
      clear H
      try go_wp2
      replace HB := Aside0.mk (below_drew1 HB.out)
      have p119 : 0 ≤ (x3_1 : Int) := od_
      have q119 : x3_1 < (l0.length : Int) := od_
      obtain ⟨ad119, e119, hx119_0, hx119_1, hx119_2, hx119_3, hx119_4, hx119_5, hx119_6, hx119_7, hx119_8⟩ := at_T177 HR0.out x3_1 p119 q119
      have hw119_8 := hx119_8
      have hw119_7 := hx119_7
      have hw119_6 := hx119_6
      have hw119_5 := hx119_5
      have hw119_4 := hx119_4
      have hw119_3 := hx119_3
      have hw119_2 := hx119_2
      have hw119_1 := hx119_1
      have hw119_0 := hx119_0
      cases e119
      replace hx119_0 := bc_ HB.out hx119_0
      replace hx119_1 := bc_ HB.out hx119_1
      replace hx119_2 := bc_ HB.out hx119_2
      replace hx119_3 := bc_ HB.out hx119_3
      replace hx119_4 := bc_ HB.out hx119_4
      replace hx119_5 := bc_ HB.out hx119_5
      replace hx119_6 := bc_ HB.out hx119_6
      replace hx119_7 := bc_ HB.out hx119_7
      replace hx119_8 := bc_ HB.out hx119_8
      replace p119 := eq_true p119
      replace q119 := eq_true q119
      refine start_ (n := 24) (S := fun w' => w'.cell? (ad119.add ((x3_1).toNat * 9)) = some (.string ((rd_T177 l0 x3_1).f0)) ∧ w'.cell? ⟨(ad119.add ((x3_1).toNat * 9)).block, (ad119.add ((x3_1).toNat * 9)).off + 1, none⟩ = some (.int .i64 ((rd_T177 l0 x3_1).f1)) ∧ w'.cell? ⟨(ad119.add ((x3_1).toNat * 9)).block, (ad119.add ((x3_1).toNat * 9)).off + 2, none⟩ = some (.int .i64 ((rd_T177 l0 x3_1).f2)) ∧ w'.cell? ⟨(ad119.add ((x3_1).toNat * 9)).block, (ad119.add ((x3_1).toNat * 9)).off + 3, none⟩ = some (.int .i64 ((rd_T177 l0 x3_1).f3)) ∧ w'.cell? ⟨(ad119.add ((x3_1).toNat * 9)).block, (ad119.add ((x3_1).toNat * 9)).off + 4, none⟩ = some (.int .i64 ((rd_T177 l0 x3_1).f4)) ∧ w'.cell? ⟨(ad119.add ((x3_1).toNat * 9)).block, (ad119.add ((x3_1).toNat * 9)).off + 5, none⟩ = some (.int .i64 ((rd_T177 l0 x3_1).f5)) ∧ w'.cell? ⟨(ad119.add ((x3_1).toNat * 9)).block, (ad119.add ((x3_1).toNat * 9)).off + 6, none⟩ = some (.int .i64 ((rd_T177 l0 x3_1).f6)) ∧ w'.cell? ⟨(ad119.add ((x3_1).toNat * 9)).block, (ad119.add ((x3_1).toNat * 9)).off + 7, none⟩ = some (.int .i64 ((rd_T177 l0 x3_1).f7)) ∧ w'.cell? ⟨(ad119.add ((x3_1).toNat * 9)).block, (ad119.add ((x3_1).toNat * 9)).off + 8, none⟩ = some (.int .i64 ((rd_T177 l0 x3_1).f8))) (ds := []) #[f_,f_,f_,f_,f_,f_,f_,f_,f_,f_,f_,f_,f_,f_,f_,f_,f_,f_,f_,f_,f_,f_,f_,f_] (by kernel_rfl) rfl rfl ⟨(bc_ HB.out hw119_0 :), (bc_ HB.out hw119_1 :), (bc_ HB.out hw119_2 :), (bc_ HB.out hw119_3 :), (bc_ HB.out hw119_4 :), (bc_ HB.out hw119_5 :), (bc_ HB.out hw119_6 :), (bc_ HB.out hw119_7 :), (bc_ HB.out hw119_8 :)⟩ (fun hHeld => ?_); refine with_tabW spec_AreArticles.tab4 spec_AreArticles.bits4 (fun HT_ HW_ => ?_)
      generalize wr.drew = w15 at HB hx119_0 hx119_1 hx119_2 hx119_3 hx119_4 hx119_5 hx119_6 hx119_7 hx119_8 hHeld ⊢
      refine pu_ 0 10 #[t_,f_,f_,f_,f_,f_,f_,f_,f_,f_,f_,f_,f_,f_,f_,f_,f_,f_,f_,f_,f_,f_,f_,f_] HT_.out ?_
      refine pu_ 1 11 #[t_,t_,f_,f_,f_,f_,f_,f_,f_,f_,f_,f_,f_,f_,f_,f_,f_,f_,f_,f_,f_,f_,f_,f_] HT_.out ?_
      refine pu_ 2 12 #[t_,t_,t_,f_,f_,f_,f_,f_,f_,f_,f_,f_,f_,f_,f_,f_,f_,f_,f_,f_,f_,f_,f_,f_] HT_.out ?_
      refine take_ (i := 3) (N := some 13) (v := ?_) (a' := ?_) #[t_,t_,t_,t_,f_,f_,f_,f_,f_,f_,f_,f_,f_,f_,f_,f_,f_,f_,f_,f_,f_,f_,f_,f_] rfl rfl (take_ofW HT_.out HW_.out (by kernel_rfl)) (fun _ _ _ h => h) (Or.inl ⟨by rfl, ?_⟩) hHeld ?_ ?_
      rotate_left
      ·rintro w' ⟨s0, s1, s2, s3, s4, s5, s6, s7, s8⟩
       go_simp
       with_reducible rfl
      rotate_left
      ·simp only [pz_]
       rfl
      refine one_ (i := 4) (N := some 14) #[t_,t_,t_,t_,t_,f_,f_,f_,f_,f_,f_,f_,f_,f_,f_,f_,f_,f_,f_,f_,f_,f_,f_,f_] rfl rfl (one_of HT_.out (by kernel_rfl)) (by decide) (fun K hK => ?_)
      refine goes_ Try.func193 (by kernel_rfl) rfl #[.agg #[.string ((rd_T177 l0 x3_1).f0), .int .i64 ((rd_T177 l0 x3_1).f1), .int .i64 ((rd_T177 l0 x3_1).f2), .int .i64 ((rd_T177 l0 x3_1).f3), .int .i64 ((rd_T177 l0 x3_1).f4), .int .i64 ((rd_T177 l0 x3_1).f5), .int .i64 ((rd_T177 l0 x3_1).f6), .int .i64 ((rd_T177 l0 x3_1).f7), .int .i64 ((rd_T177 l0 x3_1).f8)]] (by rfl) rfl rfl ag_ ?_
      with_reducible refine (spec_IsArticle.calls k1 ((rd_T177 l0 x3_1).f0) ((rd_T177 l0 x3_1).f1) ((rd_T177 l0 x3_1).f2) ((rd_T177 l0 x3_1).f3) ((rd_T177 l0 x3_1).f4) ((rd_T177 l0 x3_1).f5) ((rd_T177 l0 x3_1).f6) ((rd_T177 l0 x3_1).f7) ((rd_T177 l0 x3_1).f8) true _ A4.out).mono ?_
      rintro e w16 ⟨rfl, hb⟩
      refine ⟨_, rfl, ?_⟩
      replace HB := Aside0.mk (below_step (bl_ HB.out) hb)
      (try clear hb)
      (try clear hb2)
      (try clear hk)
      (try clear hi)
      refine hK.out _ _ ⟨(bc_ HB.out hw119_0 :), (bc_ HB.out hw119_1 :), (bc_ HB.out hw119_2 :), (bc_ HB.out hw119_3 :), (bc_ HB.out hw119_4 :), (bc_ HB.out hw119_5 :), (bc_ HB.out hw119_6 :), (bc_ HB.out hw119_7 :), (bc_ HB.out hw119_8 :)⟩ (fun hHeld => ?_)
      clear hK K
      refine norm_ (a' := ?_) ?_ ?_
      rotate_left
      ·show Act.put _ (some 14) _ = _
       simp only [pz_]
       rfl
      refine pu_ 5 15 #[t_,t_,t_,t_,t_,t_,f_,f_,f_,f_,f_,f_,f_,f_,f_,f_,f_,f_,f_,f_,f_,f_,f_,f_] HT_.out ?_
      refine pu_ 6 16 #[t_,t_,t_,t_,t_,t_,t_,f_,f_,f_,f_,f_,f_,f_,f_,f_,f_,f_,f_,f_,f_,f_,f_,f_] HT_.out ?_
      refine pu_ 7 17 #[t_,t_,t_,t_,t_,t_,t_,t_,f_,f_,f_,f_,f_,f_,f_,f_,f_,f_,f_,f_,f_,f_,f_,f_] HT_.out ?_
      refine pu_ 8 18 #[t_,t_,t_,t_,t_,t_,t_,t_,t_,f_,f_,f_,f_,f_,f_,f_,f_,f_,f_,f_,f_,f_,f_,f_] HT_.out ?_
      refine pu_ 9 19 #[t_,t_,t_,t_,t_,t_,t_,t_,t_,t_,f_,f_,f_,f_,f_,f_,f_,f_,f_,f_,f_,f_,f_,f_] HT_.out ?_
      refine un_ 10 20 #[t_,t_,t_,t_,t_,t_,t_,t_,t_,t_,t_,f_,f_,f_,f_,f_,f_,f_,f_,f_,f_,f_,f_,f_] HT_.out ?_
      refine un_ 11 21 #[t_,t_,t_,t_,t_,t_,t_,t_,t_,t_,t_,t_,f_,f_,f_,f_,f_,f_,f_,f_,f_,f_,f_,f_] HT_.out ?_
      refine un_ 12 22 #[t_,t_,t_,t_,t_,t_,t_,t_,t_,t_,t_,t_,t_,f_,f_,f_,f_,f_,f_,f_,f_,f_,f_,f_] HT_.out ?_
      refine un_ 13 23 #[t_,t_,t_,t_,t_,t_,t_,t_,t_,t_,t_,t_,t_,t_,f_,f_,f_,f_,f_,f_,f_,f_,f_,f_] HT_.out ?_
      refine un_ 14 24 #[t_,t_,t_,t_,t_,t_,t_,t_,t_,t_,t_,t_,t_,t_,t_,f_,f_,f_,f_,f_,f_,f_,f_,f_] HT_.out ?_
      refine un_ 15 25 #[t_,t_,t_,t_,t_,t_,t_,t_,t_,t_,t_,t_,t_,t_,t_,t_,f_,f_,f_,f_,f_,f_,f_,f_] HT_.out ?_
      refine un_ 16 26 #[t_,t_,t_,t_,t_,t_,t_,t_,t_,t_,t_,t_,t_,t_,t_,t_,t_,f_,f_,f_,f_,f_,f_,f_] HT_.out ?_
      refine un_ 17 27 #[t_,t_,t_,t_,t_,t_,t_,t_,t_,t_,t_,t_,t_,t_,t_,t_,t_,t_,f_,f_,f_,f_,f_,f_] HT_.out ?_
      refine un_ 18 28 #[t_,t_,t_,t_,t_,t_,t_,t_,t_,t_,t_,t_,t_,t_,t_,t_,t_,t_,t_,f_,f_,f_,f_,f_] HT_.out ?_
      refine un_ 19 29 #[t_,t_,t_,t_,t_,t_,t_,t_,t_,t_,t_,t_,t_,t_,t_,t_,t_,t_,t_,t_,f_,f_,f_,f_] HT_.out ?_
      refine un_ 20 30 #[t_,t_,t_,t_,t_,t_,t_,t_,t_,t_,t_,t_,t_,t_,t_,t_,t_,t_,t_,t_,t_,f_,f_,f_] HT_.out ?_
      refine un_ 21 31 #[t_,t_,t_,t_,t_,t_,t_,t_,t_,t_,t_,t_,t_,t_,t_,t_,t_,t_,t_,t_,t_,t_,f_,f_] HT_.out ?_
      refine pu_ 22 32 #[t_,t_,t_,t_,t_,t_,t_,t_,t_,t_,t_,t_,t_,t_,t_,t_,t_,t_,t_,t_,t_,t_,t_,f_] HT_.out ?_
      refine pu_ 23 33 #[t_,t_,t_,t_,t_,t_,t_,t_,t_,t_,t_,t_,t_,t_,t_,t_,t_,t_,t_,t_,t_,t_,t_,t_] HT_.out ?_
      refine done_ (done_of HT_.out (by kernel_rfl)) ?_
      try go_wp2
      go_roundg k1
      case measure => have := HK1.out; omega
      case rel => exact ⟨(wrap64 (x3_1 + 1)), (by first | rfl | (simp; done) | (simp [*]; done)), H', ⟨by have := HK1.out; omega⟩, ⟨bl_ HB.out⟩⟩
    ·replace c5 := Bool.eq_false_iff.mpr c5
     subst c5
     replace H : (some false) = some r := by rw [if_neg (show ¬ (false = true) by decide)] at H; exact H
     obtain rfl := Option.some.inj H
     try go_wp2
     replace HB := Aside0.mk (below_drew1 HB.out)
     have p119 : 0 ≤ (x3_1 : Int) := od_
     have q119 : x3_1 < (l0.length : Int) := od_
     obtain ⟨ad119, e119, hx119_0, hx119_1, hx119_2, hx119_3, hx119_4, hx119_5, hx119_6, hx119_7, hx119_8⟩ := at_T177 HR0.out x3_1 p119 q119
     have hw119_8 := hx119_8
     have hw119_7 := hx119_7
     have hw119_6 := hx119_6
     have hw119_5 := hx119_5
     have hw119_4 := hx119_4
     have hw119_3 := hx119_3
     have hw119_2 := hx119_2
     have hw119_1 := hx119_1
     have hw119_0 := hx119_0
     cases e119
     replace hx119_0 := bc_ HB.out hx119_0
     replace hx119_1 := bc_ HB.out hx119_1
     replace hx119_2 := bc_ HB.out hx119_2
     replace hx119_3 := bc_ HB.out hx119_3
     replace hx119_4 := bc_ HB.out hx119_4
     replace hx119_5 := bc_ HB.out hx119_5
     replace hx119_6 := bc_ HB.out hx119_6
     replace hx119_7 := bc_ HB.out hx119_7
     replace hx119_8 := bc_ HB.out hx119_8
     replace p119 := eq_true p119
     replace q119 := eq_true q119
     refine start_ (n := 24) (S := fun w' => w'.cell? (ad119.add ((x3_1).toNat * 9)) = some (.string ((rd_T177 l0 x3_1).f0)) ∧ w'.cell? ⟨(ad119.add ((x3_1).toNat * 9)).block, (ad119.add ((x3_1).toNat * 9)).off + 1, none⟩ = some (.int .i64 ((rd_T177 l0 x3_1).f1)) ∧ w'.cell? ⟨(ad119.add ((x3_1).toNat * 9)).block, (ad119.add ((x3_1).toNat * 9)).off + 2, none⟩ = some (.int .i64 ((rd_T177 l0 x3_1).f2)) ∧ w'.cell? ⟨(ad119.add ((x3_1).toNat * 9)).block, (ad119.add ((x3_1).toNat * 9)).off + 3, none⟩ = some (.int .i64 ((rd_T177 l0 x3_1).f3)) ∧ w'.cell? ⟨(ad119.add ((x3_1).toNat * 9)).block, (ad119.add ((x3_1).toNat * 9)).off + 4, none⟩ = some (.int .i64 ((rd_T177 l0 x3_1).f4)) ∧ w'.cell? ⟨(ad119.add ((x3_1).toNat * 9)).block, (ad119.add ((x3_1).toNat * 9)).off + 5, none⟩ = some (.int .i64 ((rd_T177 l0 x3_1).f5)) ∧ w'.cell? ⟨(ad119.add ((x3_1).toNat * 9)).block, (ad119.add ((x3_1).toNat * 9)).off + 6, none⟩ = some (.int .i64 ((rd_T177 l0 x3_1).f6)) ∧ w'.cell? ⟨(ad119.add ((x3_1).toNat * 9)).block, (ad119.add ((x3_1).toNat * 9)).off + 7, none⟩ = some (.int .i64 ((rd_T177 l0 x3_1).f7)) ∧ w'.cell? ⟨(ad119.add ((x3_1).toNat * 9)).block, (ad119.add ((x3_1).toNat * 9)).off + 8, none⟩ = some (.int .i64 ((rd_T177 l0 x3_1).f8))) (ds := []) #[f_,f_,f_,f_,f_,f_,f_,f_,f_,f_,f_,f_,f_,f_,f_,f_,f_,f_,f_,f_,f_,f_,f_,f_] (by kernel_rfl) rfl rfl ⟨(bc_ HB.out hw119_0 :), (bc_ HB.out hw119_1 :), (bc_ HB.out hw119_2 :), (bc_ HB.out hw119_3 :), (bc_ HB.out hw119_4 :), (bc_ HB.out hw119_5 :), (bc_ HB.out hw119_6 :), (bc_ HB.out hw119_7 :), (bc_ HB.out hw119_8 :)⟩ (fun hHeld => ?_); refine with_tabW spec_AreArticles.tab4 spec_AreArticles.bits4 (fun HT_ HW_ => ?_)
     generalize wr.drew = w17 at HB hx119_0 hx119_1 hx119_2 hx119_3 hx119_4 hx119_5 hx119_6 hx119_7 hx119_8 hHeld ⊢
     refine pu_ 0 10 #[t_,f_,f_,f_,f_,f_,f_,f_,f_,f_,f_,f_,f_,f_,f_,f_,f_,f_,f_,f_,f_,f_,f_,f_] HT_.out ?_
     refine pu_ 1 11 #[t_,t_,f_,f_,f_,f_,f_,f_,f_,f_,f_,f_,f_,f_,f_,f_,f_,f_,f_,f_,f_,f_,f_,f_] HT_.out ?_
     refine pu_ 2 12 #[t_,t_,t_,f_,f_,f_,f_,f_,f_,f_,f_,f_,f_,f_,f_,f_,f_,f_,f_,f_,f_,f_,f_,f_] HT_.out ?_
     refine take_ (i := 3) (N := some 13) (v := ?_) (a' := ?_) #[t_,t_,t_,t_,f_,f_,f_,f_,f_,f_,f_,f_,f_,f_,f_,f_,f_,f_,f_,f_,f_,f_,f_,f_] rfl rfl (take_ofW HT_.out HW_.out (by kernel_rfl)) (fun _ _ _ h => h) (Or.inl ⟨by rfl, ?_⟩) hHeld ?_ ?_
     rotate_left
     ·rintro w' ⟨s0, s1, s2, s3, s4, s5, s6, s7, s8⟩
      go_simp
      with_reducible rfl
     rotate_left
     ·simp only [pz_]
      rfl
     refine one_ (i := 4) (N := some 14) #[t_,t_,t_,t_,t_,f_,f_,f_,f_,f_,f_,f_,f_,f_,f_,f_,f_,f_,f_,f_,f_,f_,f_,f_] rfl rfl (one_of HT_.out (by kernel_rfl)) (by decide) (fun K hK => ?_)
     refine goes_ Try.func193 (by kernel_rfl) rfl #[.agg #[.string ((rd_T177 l0 x3_1).f0), .int .i64 ((rd_T177 l0 x3_1).f1), .int .i64 ((rd_T177 l0 x3_1).f2), .int .i64 ((rd_T177 l0 x3_1).f3), .int .i64 ((rd_T177 l0 x3_1).f4), .int .i64 ((rd_T177 l0 x3_1).f5), .int .i64 ((rd_T177 l0 x3_1).f6), .int .i64 ((rd_T177 l0 x3_1).f7), .int .i64 ((rd_T177 l0 x3_1).f8)]] (by rfl) rfl rfl ag_ ?_
     with_reducible refine (spec_IsArticle.calls k1 ((rd_T177 l0 x3_1).f0) ((rd_T177 l0 x3_1).f1) ((rd_T177 l0 x3_1).f2) ((rd_T177 l0 x3_1).f3) ((rd_T177 l0 x3_1).f4) ((rd_T177 l0 x3_1).f5) ((rd_T177 l0 x3_1).f6) ((rd_T177 l0 x3_1).f7) ((rd_T177 l0 x3_1).f8) false _ A4.out).mono ?_
     rintro e w18 ⟨rfl, hb⟩
     refine ⟨_, rfl, ?_⟩
     replace HB := Aside0.mk (below_step (bl_ HB.out) hb)
     (try clear hb)
     (try clear hb2)
     (try clear hk)
     (try clear hi)
     refine hK.out _ _ ⟨(bc_ HB.out hw119_0 :), (bc_ HB.out hw119_1 :), (bc_ HB.out hw119_2 :), (bc_ HB.out hw119_3 :), (bc_ HB.out hw119_4 :), (bc_ HB.out hw119_5 :), (bc_ HB.out hw119_6 :), (bc_ HB.out hw119_7 :), (bc_ HB.out hw119_8 :)⟩ (fun hHeld => ?_)
     clear hK K
     refine norm_ (a' := ?_) ?_ ?_
     rotate_left
     ·show Act.put _ (some 14) _ = _
      simp only [pz_]
      rfl
     refine pu_ 5 15 #[t_,t_,t_,t_,t_,t_,f_,f_,f_,f_,f_,f_,f_,f_,f_,f_,f_,f_,f_,f_,f_,f_,f_,f_] HT_.out ?_
     refine pu_ 6 16 #[t_,t_,t_,t_,t_,t_,t_,f_,f_,f_,f_,f_,f_,f_,f_,f_,f_,f_,f_,f_,f_,f_,f_,f_] HT_.out ?_
     refine un_ 7 17 #[t_,t_,t_,t_,t_,t_,t_,t_,f_,f_,f_,f_,f_,f_,f_,f_,f_,f_,f_,f_,f_,f_,f_,f_] HT_.out ?_
     refine un_ 8 18 #[t_,t_,t_,t_,t_,t_,t_,t_,t_,f_,f_,f_,f_,f_,f_,f_,f_,f_,f_,f_,f_,f_,f_,f_] HT_.out ?_
     refine un_ 9 19 #[t_,t_,t_,t_,t_,t_,t_,t_,t_,t_,f_,f_,f_,f_,f_,f_,f_,f_,f_,f_,f_,f_,f_,f_] HT_.out ?_
     refine un_ 10 20 #[t_,t_,t_,t_,t_,t_,t_,t_,t_,t_,t_,f_,f_,f_,f_,f_,f_,f_,f_,f_,f_,f_,f_,f_] HT_.out ?_
     refine un_ 11 21 #[t_,t_,t_,t_,t_,t_,t_,t_,t_,t_,t_,t_,f_,f_,f_,f_,f_,f_,f_,f_,f_,f_,f_,f_] HT_.out ?_
     refine un_ 12 22 #[t_,t_,t_,t_,t_,t_,t_,t_,t_,t_,t_,t_,t_,f_,f_,f_,f_,f_,f_,f_,f_,f_,f_,f_] HT_.out ?_
     refine un_ 13 23 #[t_,t_,t_,t_,t_,t_,t_,t_,t_,t_,t_,t_,t_,t_,f_,f_,f_,f_,f_,f_,f_,f_,f_,f_] HT_.out ?_
     refine un_ 14 24 #[t_,t_,t_,t_,t_,t_,t_,t_,t_,t_,t_,t_,t_,t_,t_,f_,f_,f_,f_,f_,f_,f_,f_,f_] HT_.out ?_
     refine un_ 15 25 #[t_,t_,t_,t_,t_,t_,t_,t_,t_,t_,t_,t_,t_,t_,t_,t_,f_,f_,f_,f_,f_,f_,f_,f_] HT_.out ?_
     refine un_ 16 26 #[t_,t_,t_,t_,t_,t_,t_,t_,t_,t_,t_,t_,t_,t_,t_,t_,t_,f_,f_,f_,f_,f_,f_,f_] HT_.out ?_
     refine un_ 17 27 #[t_,t_,t_,t_,t_,t_,t_,t_,t_,t_,t_,t_,t_,t_,t_,t_,t_,t_,f_,f_,f_,f_,f_,f_] HT_.out ?_
     refine un_ 18 28 #[t_,t_,t_,t_,t_,t_,t_,t_,t_,t_,t_,t_,t_,t_,t_,t_,t_,t_,t_,f_,f_,f_,f_,f_] HT_.out ?_
     refine un_ 19 29 #[t_,t_,t_,t_,t_,t_,t_,t_,t_,t_,t_,t_,t_,t_,t_,t_,t_,t_,t_,t_,f_,f_,f_,f_] HT_.out ?_
     refine un_ 20 30 #[t_,t_,t_,t_,t_,t_,t_,t_,t_,t_,t_,t_,t_,t_,t_,t_,t_,t_,t_,t_,t_,f_,f_,f_] HT_.out ?_
     refine un_ 21 31 #[t_,t_,t_,t_,t_,t_,t_,t_,t_,t_,t_,t_,t_,t_,t_,t_,t_,t_,t_,t_,t_,t_,f_,f_] HT_.out ?_
     refine un_ 22 32 #[t_,t_,t_,t_,t_,t_,t_,t_,t_,t_,t_,t_,t_,t_,t_,t_,t_,t_,t_,t_,t_,t_,t_,f_] HT_.out ?_
     refine pu_ 23 33 #[t_,t_,t_,t_,t_,t_,t_,t_,t_,t_,t_,t_,t_,t_,t_,t_,t_,t_,t_,t_,t_,t_,t_,t_] HT_.out ?_
     refine done_ (done_of HT_.out (by kernel_rfl)) ?_
     try go_wp2
     go_ret
     exact ⟨by first | rfl | (simp [errW_none, errW_some] <;> rfl) | (simp [*, errW_none, errW_some] <;> rfl), bl_ HB.out⟩
   ·rw [if_neg c2] at H
    have c2b0 : decide (x3_1 < (l0.length : Int)) = false := decide_eq_false c2
    clear c2
    obtain rfl := Option.some.inj H
    go_wp2
    go_ret
    exact ⟨by first | rfl | (simp [errW_none, errW_some] <;> rfl) | (simp [*, errW_none, errW_some] <;> rfl), bl_ HB.out⟩
def spec_l15Place.f (a0 : Int) (a1 : Int) : Option (Bool) := (spec_l01In.f a0 0 100000).bind fun t123 => (if t123 = true then ((spec_l01In.f a1 0 100000).bind fun t124 => (some t124)) else (some false))
set_option maxHeartbeats 8000000 in
set_option maxRecDepth 100000 in
theorem spec_l15Place.calls (a0 : Int) (a1 : Int) (r : Bool) (w : World) (h : spec_l15Place.f a0 a1 = some r) :
    Calls Try.prog 164 #[.int .i64 a0, .int .i64 a1] w fun e w' => e = .returned (.bool r) ∧ Drawn0 w w' := by
  have H : ((spec_l01In.f a0 0 100000).bind fun t123 => (if t123 = true then ((spec_l01In.f a1 0 100000).bind fun t124 => (some t124)) else (some false))) = some r := h
  clear h
  replace H := Option.bind_eq_some_iff.mp H
  obtain ⟨t123, A30, H⟩ := H
  replace H : (if t123 = true then ((spec_l01In.f a1 0 100000).bind fun t124 => (some t124)) else (some false)) = some r := H
  have A3 := Aside0.mk A30
  clear A30
  by_cases c4 : t123 = true
  · subst c4
    replace H : ((spec_l01In.f a1 0 100000).bind fun t124 => (some t124)) = some r := by rw [if_pos rfl] at H; exact H
    replace H := Option.bind_eq_some_iff.mp H
    obtain ⟨t124, A50, H⟩ := H
    replace H : (some t124) = some r := H
    have A5 := Aside0.mk A50
    clear A50
    obtain rfl := Option.some.inj H
    go_enter Try.func164, Try.ntmps164
    go_wp2_with (first | ((with_reducible refine gate_callee (f := 165) rfl ?_); refine goesL_ (some 6) rfl rfl Try.func165 (by kernel_rfl) rfl #[.int .i64 a0, .int .i64 0, .int .i64 100000] rfl ag_ ?_; (with_reducible refine (spec_l01In.calls a0 0 100000 true _ A3.out).mono ?_); rintro e w' ⟨rfl, ⟨nd, rfl⟩⟩; refine ⟨_, rfl, ?_⟩) | (go_at_call 165; (with_reducible refine (spec_l01In.calls a1 0 100000 t124 _ A5.out).mono ?_); rintro e w' ⟨rfl, ⟨nd, rfl⟩⟩))
    go_ret
    exact ⟨by first | rfl | (simp; done) | (simp [*]; done), by repeat (first | exact Drawn0.refl _ | apply Drawn0.step)⟩
  · replace c4 := Bool.eq_false_iff.mpr c4
    subst c4
    replace H : (some false) = some r := by rw [if_neg (show ¬ (false = true) by decide)] at H; exact H
    obtain rfl := Option.some.inj H
    go_enter Try.func164, Try.ntmps164
    go_wp2_with (first | ((with_reducible refine gate_callee (f := 165) rfl ?_); refine goesL_ (some 6) rfl rfl Try.func165 (by kernel_rfl) rfl #[.int .i64 a0, .int .i64 0, .int .i64 100000] rfl ag_ ?_; (with_reducible refine (spec_l01In.calls a0 0 100000 false _ A3.out).mono ?_); rintro e w' ⟨rfl, ⟨nd, rfl⟩⟩; refine ⟨_, rfl, ?_⟩))
    go_ret
    exact ⟨by first | rfl | (simp; done) | (simp [*]; done), by repeat (first | exact Drawn0.refl _ | apply Drawn0.step)⟩
def spec_l03Find.l0 : Nat → List (S177) → ByteArray → Int → Option (Int)
  | 0, _, _, _ => none
  | k + 1, x0, x1, x5 => if x5 < (x0.length : Int) then (if 0 ≤ x5 then (if ((rd_T177 x0 x5).f0).toList = x1.toList then (some x5) else (spec_l03Find.l0 k x0 x1 (wrap64 (x5 + 1)))) else (none)) else (some (-1))
def spec_l03Find.f (k : Nat) (l0 : List (S177)) (a1 : ByteArray) : Option (Int) := spec_l03Find.l0 k l0 a1 0
set_option maxHeartbeats 8000000 in
set_option maxRecDepth 100000 in
theorem spec_l03Find.calls (k : Nat) (A0 : Option Addr) (c0 : Nat) (l0 : List (S177)) (a1 : ByteArray) (r : Int) (w : World) (hr0 : Kd.C k177 w A0 l0.length l0) (hc0 : l0.length ≤ c0) (h : spec_l03Find.f k l0 a1 = some r) :
    Calls Try.prog 166 #[.slice A0 l0.length c0, .string a1] w fun e w' => e = .returned (.int .i64 r) ∧ Drawn0 w w' := by
  have HR0 := Aside0.mk hr0
  have HC0 := Aside0.mk hc0
  clear hr0 hc0
  have H : (spec_l03Find.l0 k l0 a1 0) = some r := h
  clear h
  have H' := Aside0.mk H
  clear H
  go_enter Try.func166, Try.ntmps166
  go_wp2
  go_loopg [5] k (fun kq v5 w' => ∃ (x5_1 : Int), v5 = .int .i64 x5_1 ∧ Aside0 (spec_l03Find.l0 kq l0 a1 x5_1 = some r) ∧ Aside0 (kq ≤ k) ∧ Drawn0 w w')
  case atStart => exact ⟨(0), (by first | rfl | (simp; done) | (simp [*]; done)), H', ⟨Nat.le_refl _⟩, by repeat (first | exact Drawn0.refl _ | apply Drawn0.step)⟩
  case round =>
    clear H'
    try clear c1
    try clear p2
    obtain ⟨x5_1, rfl, HA, HK1, ⟨m1, rfl⟩⟩ := hrel
    cases gk with
    | zero => exact absurd HA.out (by simp [spec_l03Find.l0])
    | succ k1 =>
      have H := HA.out
      clear HA
      simp only [spec_l03Find.l0] at H
      by_cases c3 : x5_1 < (l0.length : Int)
      · rw [if_pos c3] at H
        have c3b0 : decide (x5_1 < (l0.length : Int)) = true := decide_eq_true c3
        clear c3
        by_cases c4 : 0 ≤ x5_1
        · rw [if_pos c4] at H
          have c4b0 : decide (0 ≤ x5_1) = true := decide_eq_true c4
          clear c4
          by_cases c5 : ((rd_T177 l0 x5_1).f0).toList = a1.toList
          · rw [if_pos c5] at H
            have c5b0 : (((rd_T177 l0 x5_1).f0).toList == a1.toList) = true := beq_iff_eq.mpr c5
            have c5b1 : (((rd_T177 l0 x5_1).f0).toList != a1.toList) = false := bne_eq_false_iff_eq.mpr c5
            clear c5
            obtain rfl := Option.some.inj H
            have p125 : 0 ≤ (x5_1 : Int) := od_
            have q125 : x5_1 < (l0.length : Int) := od_
            obtain ⟨ad125, e125, hx125_0, hx125_1, hx125_2, hx125_3, hx125_4, hx125_5, hx125_6, hx125_7, hx125_8⟩ := at_T177 HR0.out x5_1 p125 q125
            cases e125
            replace p125 := eq_true p125
            replace q125 := eq_true q125
            go_wp2
            go_ret
            exact ⟨by first | rfl | (simp; done) | (simp [*]; done), by repeat (first | exact Drawn0.refl _ | apply Drawn0.step)⟩
          · rw [if_neg c5] at H
            have c5b0 : (((rd_T177 l0 x5_1).f0).toList == a1.toList) = false := beq_eq_false_iff_ne.mpr c5
            have c5b1 : (((rd_T177 l0 x5_1).f0).toList != a1.toList) = true := bne_iff_ne.mpr c5
            have H' := Aside0.mk H
            clear H
            have p125 : 0 ≤ (x5_1 : Int) := od_
            have q125 : x5_1 < (l0.length : Int) := od_
            obtain ⟨ad125, e125, hx125_0, hx125_1, hx125_2, hx125_3, hx125_4, hx125_5, hx125_6, hx125_7, hx125_8⟩ := at_T177 HR0.out x5_1 p125 q125
            cases e125
            replace p125 := eq_true p125
            replace q125 := eq_true q125
            go_wp2
            go_roundg k1
            case measure => have := HK1.out; omega
            case rel => exact ⟨(wrap64 (x5_1 + 1)), (by first | rfl | (simp; done) | (simp [*]; done)), H', ⟨by have := HK1.out; omega⟩, by repeat (first | exact Drawn0.refl _ | apply Drawn0.step)⟩
        · rw [if_neg c4] at H
          exact absurd H (by simp)
      · rw [if_neg c3] at H
        have c3b0 : decide (x5_1 < (l0.length : Int)) = false := decide_eq_false c3
        clear c3
        obtain rfl := Option.some.inj H
        go_wp2
        go_ret
        exact ⟨by first | rfl | (simp; done) | (simp [*]; done), by repeat (first | exact Drawn0.refl _ | apply Drawn0.step)⟩
def spec_l17Fits.f (a0_0 : ByteArray) (a0_1 : Int) (a0_2 : Int) (a0_3 : Int) (a0_4 : Int) (a0_5 : Int) (a0_6 : Int) (a0_7 : Int) (a0_8 : Int) (a1 : Int) : Option (Bool) := if a0_2 ≤ a1 then (some (decide ((wrap64 (10 * a0_2)) > (wrap64 (9 * a1))))) else (some false)
set_option maxHeartbeats 8000000 in
set_option maxRecDepth 100000 in
theorem spec_l17Fits.calls (a0_0 : ByteArray) (a0_1 : Int) (a0_2 : Int) (a0_3 : Int) (a0_4 : Int) (a0_5 : Int) (a0_6 : Int) (a0_7 : Int) (a0_8 : Int) (a1 : Int) (r : Bool) (w : World) (h : spec_l17Fits.f a0_0 a0_1 a0_2 a0_3 a0_4 a0_5 a0_6 a0_7 a0_8 a1 = some r) :
    Calls Try.prog 167 #[.agg #[.string a0_0, .int .i64 a0_1, .int .i64 a0_2, .int .i64 a0_3, .int .i64 a0_4, .int .i64 a0_5, .int .i64 a0_6, .int .i64 a0_7, .int .i64 a0_8], .int .i64 a1] w fun e w' => e = .returned (.bool r) ∧ Below w.heap.size w w' := by
  have hu177 := Try.underlying177
  have HB := Aside0.mk (Below.refl w.heap.size w)
  have H : (if a0_2 ≤ a1 then (some (decide ((wrap64 (10 * a0_2)) > (wrap64 (9 * a1))))) else (some false)) = some r := h
  clear h
  by_cases c3 : a0_2 ≤ a1
  · rw [if_pos c3] at H
    have c3b0 : decide (a0_2 ≤ a1) = true := decide_eq_true c3
    clear c3
    obtain rfl := Option.some.inj H
    go_enter Try.func167, Try.ntmps167
    go_wp2_with (first | ((with_reducible refine gate_dst (N := 2) rfl ?_); refine box_event ?hg (N := 2) ?hd (cs := #[.string a0_0, .int .i64 a0_1, .int .i64 a0_2, .int .i64 a0_3, .int .i64 a0_4, .int .i64 a0_5, .int .i64 a0_6, .int .i64 a0_7, .int .i64 a0_8]) (t := 177) ?hr ?_; (case hd => rfl); (case hg => rfl); (case hr => first | (go_simp; done) | (go_simp; rfl)); intro gb126 hg w4 hbox hb; have BK126 := Aside0.mk (hbox); have GW126 := Aside0.mk ((by rw [hg]; exact (below_size (bl_ HB.out)) : w.heap.size ≤ gb126)); have GE126 := Aside0.mk ((by rw [hg]; exact (below_size (bl_ HB.out)) : w.heap.size ≤ gb126)); replace HB := Aside0.mk (below_step (bl_ HB.out) hb); clear hb hbox hg; have hcz5_0 : w4.cell? ⟨gb126, 0, none⟩ = some (.string a0_0) := (blk_cell BK126.out 0).trans rfl; have hcz5_1 : w4.cell? ⟨gb126, 1, none⟩ = some (.int .i64 a0_1) := (blk_cell BK126.out 1).trans rfl; have hcz5_2 : w4.cell? ⟨gb126, 2, none⟩ = some (.int .i64 a0_2) := (blk_cell BK126.out 2).trans rfl; have hcz5_3 : w4.cell? ⟨gb126, 3, none⟩ = some (.int .i64 a0_3) := (blk_cell BK126.out 3).trans rfl; have hcz5_4 : w4.cell? ⟨gb126, 4, none⟩ = some (.int .i64 a0_4) := (blk_cell BK126.out 4).trans rfl; have hcz5_5 : w4.cell? ⟨gb126, 5, none⟩ = some (.int .i64 a0_5) := (blk_cell BK126.out 5).trans rfl; have hcz5_6 : w4.cell? ⟨gb126, 6, none⟩ = some (.int .i64 a0_6) := (blk_cell BK126.out 6).trans rfl; have hcz5_7 : w4.cell? ⟨gb126, 7, none⟩ = some (.int .i64 a0_7) := (blk_cell BK126.out 7).trans rfl; have hcz5_8 : w4.cell? ⟨gb126, 8, none⟩ = some (.int .i64 a0_8) := (blk_cell BK126.out 8).trans rfl; have hfz5_0 := blk_frozen BK126.out 0; have hfz5_1 := blk_frozen BK126.out 1; have hfz5_2 := blk_frozen BK126.out 2; have hfz5_3 := blk_frozen BK126.out 3; have hfz5_4 := blk_frozen BK126.out 4; have hfz5_5 := blk_frozen BK126.out 5; have hfz5_6 := blk_frozen BK126.out 6; have hfz5_7 := blk_frozen BK126.out 7; have hfz5_8 := blk_frozen BK126.out 8))
    go_ret
    exact ⟨by first | rfl | (simp [errW_none, errW_some] <;> rfl) | (simp [*, errW_none, errW_some] <;> rfl), r0_ HB.out GE126.out⟩
  · rw [if_neg c3] at H
    have c3b0 : decide (a0_2 ≤ a1) = false := decide_eq_false c3
    clear c3
    obtain rfl := Option.some.inj H
    go_enter Try.func167, Try.ntmps167
    go_wp2_with (first | ((with_reducible refine gate_dst (N := 2) rfl ?_); refine box_event ?hg (N := 2) ?hd (cs := #[.string a0_0, .int .i64 a0_1, .int .i64 a0_2, .int .i64 a0_3, .int .i64 a0_4, .int .i64 a0_5, .int .i64 a0_6, .int .i64 a0_7, .int .i64 a0_8]) (t := 177) ?hr ?_; (case hd => rfl); (case hg => rfl); (case hr => first | (go_simp; done) | (go_simp; rfl)); intro gb126 hg w6 hbox hb; have BK126 := Aside0.mk (hbox); have GW126 := Aside0.mk ((by rw [hg]; exact (below_size (bl_ HB.out)) : w.heap.size ≤ gb126)); have GE126 := Aside0.mk ((by rw [hg]; exact (below_size (bl_ HB.out)) : w.heap.size ≤ gb126)); replace HB := Aside0.mk (below_step (bl_ HB.out) hb); clear hb hbox hg; have hcz7_0 : w6.cell? ⟨gb126, 0, none⟩ = some (.string a0_0) := (blk_cell BK126.out 0).trans rfl; have hcz7_1 : w6.cell? ⟨gb126, 1, none⟩ = some (.int .i64 a0_1) := (blk_cell BK126.out 1).trans rfl; have hcz7_2 : w6.cell? ⟨gb126, 2, none⟩ = some (.int .i64 a0_2) := (blk_cell BK126.out 2).trans rfl; have hcz7_3 : w6.cell? ⟨gb126, 3, none⟩ = some (.int .i64 a0_3) := (blk_cell BK126.out 3).trans rfl; have hcz7_4 : w6.cell? ⟨gb126, 4, none⟩ = some (.int .i64 a0_4) := (blk_cell BK126.out 4).trans rfl; have hcz7_5 : w6.cell? ⟨gb126, 5, none⟩ = some (.int .i64 a0_5) := (blk_cell BK126.out 5).trans rfl; have hcz7_6 : w6.cell? ⟨gb126, 6, none⟩ = some (.int .i64 a0_6) := (blk_cell BK126.out 6).trans rfl; have hcz7_7 : w6.cell? ⟨gb126, 7, none⟩ = some (.int .i64 a0_7) := (blk_cell BK126.out 7).trans rfl; have hcz7_8 : w6.cell? ⟨gb126, 8, none⟩ = some (.int .i64 a0_8) := (blk_cell BK126.out 8).trans rfl; have hfz7_0 := blk_frozen BK126.out 0; have hfz7_1 := blk_frozen BK126.out 1; have hfz7_2 := blk_frozen BK126.out 2; have hfz7_3 := blk_frozen BK126.out 3; have hfz7_4 := blk_frozen BK126.out 4; have hfz7_5 := blk_frozen BK126.out 5; have hfz7_6 := blk_frozen BK126.out 6; have hfz7_7 := blk_frozen BK126.out 7; have hfz7_8 := blk_frozen BK126.out 8))
    go_ret
    exact ⟨by first | rfl | (simp [errW_none, errW_some] <;> rfl) | (simp [*, errW_none, errW_some] <;> rfl), r0_ HB.out GE126.out⟩
end Go.Proofs.Ytmahecjbejffoaa.PFnExactIsRack
