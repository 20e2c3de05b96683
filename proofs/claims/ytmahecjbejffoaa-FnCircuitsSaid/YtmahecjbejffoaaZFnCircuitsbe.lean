/- QFnCircuitsf of the law FnCircuits: taken over, declaration by declaration, as far as the law leans on it (the words and the printed functions are the kit's own print). No condition but what each says. -/
import Derived.Test.YtmahecjbejffoaaZFnCircuitsav
import Derived.Test.YtmahecjbejffoaaZFnCircuitsaw
import Derived.Test.YtmahecjbejffoaaZFnCircuitsax
import Derived.Test.YtmahecjbejffoaaZFnCircuitsaz
import Derived.Test.YtmahecjbejffoaaZFnCircuitsba
import Derived.Test.YtmahecjbejffoaaZFnCircuitsbd
namespace Go.Proofs.Ytmahecjbejffoaa.PFnCircuits
open Go.RowKit Go.Proofs.YtmahecjbejffoaaW.PrintWords Go.Proofs.YtmahecjbejffoaaW.PrintLast Go.Proofs.YtmahecjbejffoaaW.PrintMore
attribute [local go_sem] max2_int min2_int max_two min_two max_three min_three max_four min_four   -- for this text's walks alone
set_option linter.unusedVariables false
set_option linter.unusedSimpArgs false
open Bool renaming true → t_, false → f_
def spec_WorstPins.l0 : Nat → List (S26) → List Int → Int → List Int → Int → Option (List Int × Int)
 | 0, _, _, _, _, _ => none
 | k + 1, x0, x1, x2, x9, x10 => if x10 < (x0.length : Int) then (if 0 ≤ x10 then (if x10 < (x1.length : Int) then ((spec_l14State.f k ((rd_T26 x0 x10).f0) ((rd_T26 x0 x10).f1) (rd x1 x10) x2).bind fun t345 => (if t345 = 0 then (spec_WorstPins.l0 k x0 x1 x2 x9 (wrap64 (x10 + 1))) else (if x9.length < 17592186044416 then (spec_WorstPins.l0 k x0 x1 x2 (x9 ++ [x10]) (wrap64 (x10 + 1))) else (none)))) else (none)) else (none)) else (some (x9, 0))
def spec_WorstPins.f (k : Nat) (l0 : List (S26)) (l1 : List Int) (a2 : Int) : Option (List Int × Int) := (spec_l14Code.f k l0 l1 a2).bind fun t339 => (if t339 = 0 then (spec_WorstPins.l0 k l0 l1 a2 (([] : List Int)) 0) else (some (([] : List Int), t339)))
def spec_WorstPins.T8 : Bool × List (List Nat × List Nat) := (true, [([], []), ([], []), ([0, 1], [0, 1]), ([2], [2]), ([], []), ([], []), ([4, 5], [4, 5]), ([6], [6]), ([], []), ([3, 7, 8], [3, 7, 8]), ([9], [9])])
def spec_WorstPins.B8 : List Nat := [0, 0, 3, 7, 0, 0, 48, 112, 0, 511, 1023]
theorem spec_WorstPins.tab8 : rtab .any (opsOf Try.f23 8) = spec_WorstPins.T8 := by kernel_rfl
theorem spec_WorstPins.bits8 : waitsOk spec_WorstPins.T8.2 spec_WorstPins.B8 = true := by kernel_rfl
set_option maxHeartbeats 8000000 in
set_option maxRecDepth 100000 in
theorem spec_WorstPins.calls (k : Nat) (A0 : Option Addr) (c0 : Nat) (l0 : List (S26)) (A1 : Option Addr) (c1 : Nat) (l1 : List Int) (a2 : Int) (r1 : List Int) (r2 : Int) (w : World) (hr0 : Kd.C k26 w A0 l0.length l0) (hc0 : l0.length ≤ c0) (hr1 : Kd.C (Kd.int .i64) w A1 l1.length l1) (hc1 : l1.length ≤ c1) (h : spec_WorstPins.f k l0 l1 a2 = some (r1, r2)) :
  Calls Try.prog 23 #[.slice A0 l0.length c0, .slice A1 l1.length c1, .int .i64 a2] w fun e w' => ∃ v0_ : Value, e = .returned (.tuple #[v0_, .int .i64 r2]) ∧ Kd.R (Kd.int .i64) 2 w' w.heap.size (fun _ => True) v0_ r1 ∧ Below w.heap.size w w' := by
 have hu26 := Try.underlying26
 have HR0 := Aside0.mk hr0
 have HC0 := Aside0.mk hc0
 clear hr0 hc0
 have HR1 := Aside0.mk hr1
 have HC1 := Aside0.mk hc1
 clear hr1 hc1
 have HB := Aside0.mk (Below.refl w.heap.size w)
 have H : ((spec_l14Code.f k l0 l1 a2).bind fun t339 => (if t339 = 0 then (spec_WorstPins.l0 k l0 l1 a2 (([] : List Int)) 0) else (some (([] : List Int), t339)))) = some (r1, r2) := h
 clear h
 replace H := Option.bind_eq_some_iff.mp H
 obtain ⟨t339, A40, H⟩ := H
 replace H : (if t339 = 0 then (spec_WorstPins.l0 k l0 l1 a2 (([] : List Int)) 0) else (some (([] : List Int), t339))) = some (r1, r2) := H
 have A4 := Aside0.mk A40
 clear A40
 by_cases c5 : t339 = 0
 ·rw [if_pos c5] at H
  have c5b0 : (t339 == 0) = true := beq_iff_eq.mpr c5
  have c5b1 : (t339 != 0) = false := bne_eq_false_iff_eq.mpr c5
  clear c5
  obtain ⟨y340, hy340⟩ : ∃ y_ : List Int, y_ = (([] : List Int)) := ⟨_, rfl⟩
  replace H : (spec_WorstPins.l0 k l0 l1 a2 y340 0) = some (r1, r2) := by first | (rw [hy340]; with_reducible exact H) | (have H2_ := (Option.bind_some _ _).symm.trans H; rw [hy340]; with_reducible exact H2_) | (have H2_ := (Option.bind_some _ _).symm.trans H; with_reducible exact H2_) | with_reducible exact H | (rw [hy340]; exact H) | exact H
  have Ny340 := Aside0.mk hy340
  clear hy340
  have H' := Aside0.mk H
  clear H
  go_enter Try.func23, Try.ntmps23
  go_wp2_with (first | ((with_reducible refine gate_callee (f := 103) rfl ?_); refine goesL_ (some 14) rfl rfl Try.func103 (by kernel_rfl) rfl #[.slice A0 l0.length c0, .slice A1 l1.length c1, .int .i64 a2] rfl ag_ ?_; (with_reducible refine (spec_l14Code.calls k _ _ l0 _ _ l1 a2 t339 _ ?side1 ?side2 ?side3 ?side4 A4.out).mono ?_); (case side1 => exact r13_ HR0.out); (case side2 => exact HC0.out); (case side3 => exact r13_ HR1.out); (case side4 => exact HC1.out); rintro e w6 ⟨rfl, hb⟩; refine ⟨_, rfl, ?_⟩; replace HB := Aside0.mk (below_step (bl_ HB.out) hb); (try clear hb); (try clear hb2); (try clear hk); (try clear hi)) | ((with_reducible refine gate_dst (N := 18) rfl ?_); refine Kd.R_lit (Kd.int .i64) _ 2 ?hg (N := 18) ?hd (xs := ([] : List Int)) (inner := []) (ok := fun _ => True) (okp := fun _ => True) ?hr ?hp (fun _ hk => hk) trivial (Below.refl _ _) (Nat.le_refl _) (by simp) ?_; (case hd => rfl); (case hg => rfl); (case hr => first | (go_simp; done) | (go_simp; rfl)); (case hp => exact (Reps.none _ _)); intro v341 w7 ho8 hb hg_ hnew_; clear hg_ hnew_; (first | rw [← Ny340.out] at ho8 | (simp only [Int.reduceToNat] at ho8; rw [← Ny340.out] at ho8)); have HO342 := Aside0.mk (Kd.R_lower ho8 (below_size (bl_ HB.out))); replace HB := Aside0.mk (below_step (bl_ HB.out) hb); clear hb ho8))
  go_loopg [9, 10] k (fun kq v9 v10 w' => ∃ (x9_1 : List Int) (x10_1 : Int), v10 = .int .i64 x10_1 ∧ Aside0 (spec_WorstPins.l0 kq l0 l1 a2 x9_1 x10_1 = some (r1, r2)) ∧ Aside0 (kq ≤ k) ∧ Aside0 (Kd.R (Kd.int .i64) 2 w' w.heap.size (fun _ => True) v9 x9_1) ∧ Aside0 (Below w.heap.size w w'))
  case atStart => exact ⟨(y340), (0), (by first | rfl | (simp; done) | (simp [*]; done)), H', ⟨Nat.le_refl _⟩, ⟨rk_ HO342.out⟩, ⟨bl_ HB.out⟩⟩
  case round =>
   clear H'
   try clear c1
   try clear c2
   try clear p2
   try clear c5
   try clear c5b0
   try clear c5b1
   obtain ⟨x9_1, x10_1, rfl, HA, HK1, HO_9, HB⟩ := hrel
   cases gk with
   | zero => exact absurd HA.out (by simp [spec_WorstPins.l0])
   | succ k1 =>
    have H := HA.out
    clear HA
    simp only [spec_WorstPins.l0] at H
    by_cases c9 : x10_1 < (l0.length : Int)
    ·rw [if_pos c9] at H
     have c9b0 : decide (x10_1 < (l0.length : Int)) = true := decide_eq_true c9
     clear c9
     by_cases c10 : 0 ≤ x10_1
     case neg =>
      rw [if_neg c10] at H
      exact absurd H (by simp)
     rw [if_pos c10] at H
     have c10b0 : decide (0 ≤ x10_1) = true := decide_eq_true c10
     clear c10
     by_cases c11 : x10_1 < (l1.length : Int)
     case neg =>
      rw [if_neg c11] at H
      exact absurd H (by simp)
     rw [if_pos c11] at H
     have c11b0 : decide (x10_1 < (l1.length : Int)) = true := decide_eq_true c11
     clear c11
     replace H := Option.bind_eq_some_iff.mp H
     obtain ⟨t345, A120, H⟩ := H
     replace H : (if t345 = 0 then (spec_WorstPins.l0 k1 l0 l1 a2 x9_1 (wrap64 (x10_1 + 1))) else (if x9_1.length < 17592186044416 then (spec_WorstPins.l0 k1 l0 l1 a2 (x9_1 ++ [x10_1]) (wrap64 (x10_1 + 1))) else (none))) = some (r1, r2) := H
     have A12 := Aside0.mk A120
     clear A120
     by_cases c13 : t345 = 0
     ·rw [if_pos c13] at H
      have c13b0 : (t345 == 0) = true := beq_iff_eq.mpr c13
      have c13b1 : (t345 != 0) = false := bne_eq_false_iff_eq.mpr c13
      clear c13
      have H' := Aside0.mk H
      clear H
      try go_wp2
      replace HO_9 := Aside0.mk (Kd.R_drew HO_9.out)
      replace HB := Aside0.mk (below_drew1 HB.out)
      have p343 : 0 ≤ (x10_1 : Int) := od_
      have q343 : x10_1 < (l0.length : Int) := od_
      obtain ⟨ad343, A343_1, c343_1, e343, hx343_0, hx343_1, hl343_1, hi343_1⟩ := at_T26 HR0.out x10_1 p343 q343
      have hw343_1 := hx343_1
      have hw343_0 := hx343_0
      cases e343
      replace hx343_0 := bc_ HB.out hx343_0
      replace hx343_1 := bc_ HB.out hx343_1
      have HR343_1 := Aside0.mk hi343_1
      have HC343_1 := Aside0.mk hl343_1
      clear hi343_1 hl343_1
      replace p343 := eq_true p343
      replace q343 := eq_true q343
      have p344 : 0 ≤ (x10_1 : Int) := od_
      have q344 : x10_1 < (l1.length : Int) := od_
      obtain ⟨ad344, e344, hx344_0⟩ := Kd.at_int HR1.out x10_1 p344 q344
      have hw344_0 := hx344_0
      cases e344
      replace hx344_0 := bc_ HB.out hx344_0
      replace p344 := eq_true p344
      replace q344 := eq_true q344
      refine start_ (n := 11) (S := fun w' => w'.cell? (ad343.add ((x10_1).toNat * 2)) = some (.int .i64 ((rd_T26 l0 x10_1).f0)) ∧ w'.cell? ⟨(ad343.add ((x10_1).toNat * 2)).block, (ad343.add ((x10_1).toNat * 2)).off + 1, none⟩ = some (.slice A343_1 ((rd_T26 l0 x10_1).f1).length c343_1) ∧ w'.cell? (ad344.add (x10_1).toNat) = some (.int .i64 (rd l1 x10_1))) (ds := []) #[f_,f_,f_,f_,f_,f_,f_,f_,f_,f_,f_] (by kernel_rfl) rfl rfl ⟨(bc_ HB.out hw343_0 :), (bc_ HB.out hw343_1 :), (bc_ HB.out hw344_0 :)⟩ (fun hHeld => ?_); refine with_tabW spec_WorstPins.tab8 spec_WorstPins.bits8 (fun HT_ HW_ => ?_)
      generalize wr.drew = w14 at HO_9 HB HR343_1 hx343_0 hx343_1 hx344_0 hHeld ⊢
      refine pu_ 0 25 #[t_,f_,f_,f_,f_,f_,f_,f_,f_,f_,f_] HT_.out ?_
      refine pu_ 1 26 #[t_,t_,f_,f_,f_,f_,f_,f_,f_,f_,f_] HT_.out ?_
      refine pu_ 2 27 #[t_,t_,t_,f_,f_,f_,f_,f_,f_,f_,f_] HT_.out ?_
      refine pu_ 4 29 #[t_,t_,t_,f_,t_,f_,f_,f_,f_,f_,f_] HT_.out ?_
      refine pu_ 5 30 #[t_,t_,t_,f_,t_,t_,f_,f_,f_,f_,f_] HT_.out ?_
      refine pu_ 6 31 #[t_,t_,t_,f_,t_,t_,t_,f_,f_,f_,f_] HT_.out ?_
      refine pu_ 8 33 #[t_,t_,t_,f_,t_,t_,t_,f_,t_,f_,f_] HT_.out ?_
      refine take_ (i := 3) (N := some 28) (v := ?_) (a' := ?_) #[t_,t_,t_,t_,t_,t_,t_,f_,t_,f_,f_] rfl rfl (take_ofW HT_.out HW_.out (by kernel_rfl)) (fun _ _ _ h => h) (Or.inl ⟨by rfl, ?_⟩) hHeld ?_ ?_
      rotate_left
      ·rintro w' ⟨s0, s1, s2⟩
       go_simp
       with_reducible rfl
      rotate_left
      ·simp only [pz_]
       rfl
      refine take_ (i := 7) (N := some 32) (v := ?_) (a' := ?_) #[t_,t_,t_,t_,t_,t_,t_,t_,t_,f_,f_] rfl rfl (take_ofW HT_.out HW_.out (by kernel_rfl)) (fun _ _ _ h => h) (Or.inl ⟨by rfl, ?_⟩) hHeld ?_ ?_
      rotate_left
      ·rintro w' ⟨s0, s1, s2⟩
       go_simp
       with_reducible rfl
      rotate_left
      ·simp only [pz_]
       rfl
      refine one_ (i := 9) (N := some 34) #[t_,t_,t_,t_,t_,t_,t_,t_,t_,t_,f_] rfl rfl (one_of HT_.out (by kernel_rfl)) (by decide) (fun K hK => ?_)
      refine goes_ Try.func104 (by kernel_rfl) rfl #[.agg #[.int .i64 ((rd_T26 l0 x10_1).f0), .slice A343_1 ((rd_T26 l0 x10_1).f1).length c343_1], .int .i64 (rd l1 x10_1), .int .i64 a2] (by rfl) rfl rfl ag_ ?_
      with_reducible refine (spec_l14State.calls k1 ((rd_T26 l0 x10_1).f0) _ _ ((rd_T26 l0 x10_1).f1) (rd l1 x10_1) a2 t345 _ ?side1 ?side2 A12.out).mono ?_
      (case side1 => exact r8_ HR343_1.out HB.out)
      (case side2 => exact HC343_1.out)
      rintro e w15 ⟨rfl, hb⟩
      refine ⟨_, rfl, ?_⟩
      replace HO_9 := Aside0.mk (Kd.R_below (rk_ HO_9.out) hb)
      replace HB := Aside0.mk (below_step (bl_ HB.out) hb)
      (try clear hb)
      (try clear hb2)
      (try clear hk)
      (try clear hi)
      refine hK.out _ _ ⟨(bc_ HB.out hw343_0 :), (bc_ HB.out hw343_1 :), (bc_ HB.out hw344_0 :)⟩ (fun hHeld => ?_)
      clear hK K
      refine norm_ (a' := ?_) ?_ ?_
      rotate_left
      ·show Act.put _ (some 34) _ = _
       simp only [pz_]
       rfl
      refine pu_ 10 35 #[t_,t_,t_,t_,t_,t_,t_,t_,t_,t_,t_] HT_.out ?_
      refine done_ (done_of HT_.out (by kernel_rfl)) ?_
      try go_wp2
      go_roundg k1
      case measure => have := HK1.out; omega
      case rel => exact ⟨(x9_1), (wrap64 (x10_1 + 1)), (by first | rfl | (simp; done) | (simp [*]; done)), H', ⟨by have := HK1.out; omega⟩, ⟨rk_ HO_9.out⟩, ⟨bl_ HB.out⟩⟩
     ·rw [if_neg c13] at H
      have c13b0 : (t345 == 0) = false := beq_eq_false_iff_ne.mpr c13
      have c13b1 : (t345 != 0) = true := bne_iff_ne.mpr c13
      by_cases c16 : x9_1.length < 17592186044416
      case neg =>
       rw [if_neg c16] at H
       exact absurd H (by simp)
      rw [if_pos c16] at H
      have LMc16 := Aside0.mk c16
      clear c16
      obtain ⟨y346, hy346⟩ : ∃ y_ : List Int, y_ = (x9_1 ++ [x10_1]) := ⟨_, rfl⟩
      replace H : (spec_WorstPins.l0 k1 l0 l1 a2 y346 (wrap64 (x10_1 + 1))) = some (r1, r2) := by first | (rw [hy346]; with_reducible exact H) | (have H2_ := (Option.bind_some _ _).symm.trans H; rw [hy346]; with_reducible exact H2_) | (have H2_ := (Option.bind_some _ _).symm.trans H; with_reducible exact H2_) | with_reducible exact H | (rw [hy346]; exact H) | exact H
      have Ny346 := Aside0.mk hy346
      clear hy346
      have H' := Aside0.mk H
      clear H
      try go_wp2
      replace HO_9 := Aside0.mk (Kd.R_drew HO_9.out)
      replace HB := Aside0.mk (below_drew1 HB.out)
      have p343 : 0 ≤ (x10_1 : Int) := od_
      have q343 : x10_1 < (l0.length : Int) := od_
      obtain ⟨ad343, A343_1, c343_1, e343, hx343_0, hx343_1, hl343_1, hi343_1⟩ := at_T26 HR0.out x10_1 p343 q343
      have hw343_1 := hx343_1
      have hw343_0 := hx343_0
      cases e343
      replace hx343_0 := bc_ HB.out hx343_0
      replace hx343_1 := bc_ HB.out hx343_1
      have HR343_1 := Aside0.mk hi343_1
      have HC343_1 := Aside0.mk hl343_1
      clear hi343_1 hl343_1
      replace p343 := eq_true p343
      replace q343 := eq_true q343
      have p344 : 0 ≤ (x10_1 : Int) := od_
      have q344 : x10_1 < (l1.length : Int) := od_
      obtain ⟨ad344, e344, hx344_0⟩ := Kd.at_int HR1.out x10_1 p344 q344
      have hw344_0 := hx344_0
      cases e344
      replace hx344_0 := bc_ HB.out hx344_0
      replace p344 := eq_true p344
      replace q344 := eq_true q344
      refine start_ (n := 11) (S := fun w' => w'.cell? (ad343.add ((x10_1).toNat * 2)) = some (.int .i64 ((rd_T26 l0 x10_1).f0)) ∧ w'.cell? ⟨(ad343.add ((x10_1).toNat * 2)).block, (ad343.add ((x10_1).toNat * 2)).off + 1, none⟩ = some (.slice A343_1 ((rd_T26 l0 x10_1).f1).length c343_1) ∧ w'.cell? (ad344.add (x10_1).toNat) = some (.int .i64 (rd l1 x10_1))) (ds := []) #[f_,f_,f_,f_,f_,f_,f_,f_,f_,f_,f_] (by kernel_rfl) rfl rfl ⟨(bc_ HB.out hw343_0 :), (bc_ HB.out hw343_1 :), (bc_ HB.out hw344_0 :)⟩ (fun hHeld => ?_); refine with_tabW spec_WorstPins.tab8 spec_WorstPins.bits8 (fun HT_ HW_ => ?_)
      generalize wr.drew = w17 at HO_9 HB HR343_1 hx343_0 hx343_1 hx344_0 hHeld ⊢
      refine pu_ 0 25 #[t_,f_,f_,f_,f_,f_,f_,f_,f_,f_,f_] HT_.out ?_
      refine pu_ 1 26 #[t_,t_,f_,f_,f_,f_,f_,f_,f_,f_,f_] HT_.out ?_
      refine pu_ 2 27 #[t_,t_,t_,f_,f_,f_,f_,f_,f_,f_,f_] HT_.out ?_
      refine pu_ 4 29 #[t_,t_,t_,f_,t_,f_,f_,f_,f_,f_,f_] HT_.out ?_
      refine pu_ 5 30 #[t_,t_,t_,f_,t_,t_,f_,f_,f_,f_,f_] HT_.out ?_
      refine pu_ 6 31 #[t_,t_,t_,f_,t_,t_,t_,f_,f_,f_,f_] HT_.out ?_
      refine pu_ 8 33 #[t_,t_,t_,f_,t_,t_,t_,f_,t_,f_,f_] HT_.out ?_
      refine take_ (i := 3) (N := some 28) (v := ?_) (a' := ?_) #[t_,t_,t_,t_,t_,t_,t_,f_,t_,f_,f_] rfl rfl (take_ofW HT_.out HW_.out (by kernel_rfl)) (fun _ _ _ h => h) (Or.inl ⟨by rfl, ?_⟩) hHeld ?_ ?_
      rotate_left
      ·rintro w' ⟨s0, s1, s2⟩
       go_simp
       with_reducible rfl
      rotate_left
      ·simp only [pz_]
       rfl
      refine take_ (i := 7) (N := some 32) (v := ?_) (a' := ?_) #[t_,t_,t_,t_,t_,t_,t_,t_,t_,f_,f_] rfl rfl (take_ofW HT_.out HW_.out (by kernel_rfl)) (fun _ _ _ h => h) (Or.inl ⟨by rfl, ?_⟩) hHeld ?_ ?_
      rotate_left
      ·rintro w' ⟨s0, s1, s2⟩
       go_simp
       with_reducible rfl
      rotate_left
      ·simp only [pz_]
       rfl
      refine one_ (i := 9) (N := some 34) #[t_,t_,t_,t_,t_,t_,t_,t_,t_,t_,f_] rfl rfl (one_of HT_.out (by kernel_rfl)) (by decide) (fun K hK => ?_)
      refine goes_ Try.func104 (by kernel_rfl) rfl #[.agg #[.int .i64 ((rd_T26 l0 x10_1).f0), .slice A343_1 ((rd_T26 l0 x10_1).f1).length c343_1], .int .i64 (rd l1 x10_1), .int .i64 a2] (by rfl) rfl rfl ag_ ?_
      with_reducible refine (spec_l14State.calls k1 ((rd_T26 l0 x10_1).f0) _ _ ((rd_T26 l0 x10_1).f1) (rd l1 x10_1) a2 t345 _ ?side1 ?side2 A12.out).mono ?_
      (case side1 => exact r8_ HR343_1.out HB.out)
      (case side2 => exact HC343_1.out)
      rintro e w18 ⟨rfl, hb⟩
      refine ⟨_, rfl, ?_⟩
      replace HO_9 := Aside0.mk (Kd.R_below (rk_ HO_9.out) hb)
      replace HB := Aside0.mk (below_step (bl_ HB.out) hb)
      (try clear hb)
      (try clear hb2)
      (try clear hk)
      (try clear hi)
      refine hK.out _ _ ⟨(bc_ HB.out hw343_0 :), (bc_ HB.out hw343_1 :), (bc_ HB.out hw344_0 :)⟩ (fun hHeld => ?_)
      clear hK K
      refine norm_ (a' := ?_) ?_ ?_
      rotate_left
      ·show Act.put _ (some 34) _ = _
       simp only [pz_]
       rfl
      refine pu_ 10 35 #[t_,t_,t_,t_,t_,t_,t_,t_,t_,t_,t_] HT_.out ?_
      refine done_ (done_of HT_.out (by kernel_rfl)) ?_
      try go_wp2_with (first | ((with_reducible refine gate_builtin (b := .append) (xs := #[.tmp 36, .tmp 38]) rfl ?_); at_builtin; refine Kd.R_append (Kd.int .i64) (w0 := w) w.heap.size rfl (.tmp 36) (.tmp 38) 24 2 (.int .i64 0) 8 rfl Try.underlying24 info2 rfl (by decide) (by omega) u9 x9_1 x10_1 [.int .i64 x10_1] (fun _ => True) (fun _ => False) rfl rfl ?aP (fun _ hk => hk.elim) ?aF ?aO ?aB ?aS ?aL ?_; (case aP => exact rfl); (case aB => exact (bl_ HB.out)); (case aF => exact (fun _ _ => trivial)); (case aO => exact (rk_ HO_9.out)); (case aS => exact (below_size (bl_ HB.out))); (case aL => have := LMc16.out; omega); intro v347 w19 ho hb hg hat; rw [← Ny346.out] at ho; have n0_ := Aside0.mk (hb); have n1_ := Aside0.mk (ho); clear HB; clear HO_9; have HB := n0_; have HO348 := n1_; clear n0_ n1_; clear ho hb hg hat))
      go_roundg k1
      case measure => have := HK1.out; omega
      case rel => exact ⟨(y346), (wrap64 (x10_1 + 1)), (by first | rfl | (simp; done) | (simp [*]; done)), H', ⟨by have := HK1.out; omega⟩, ⟨rk_ HO348.out⟩, ⟨bl_ HB.out⟩⟩
    ·rw [if_neg c9] at H
     have c9b0 : decide (x10_1 < (l0.length : Int)) = false := decide_eq_false c9
     clear c9
     simp only [Option.some.injEq, Prod.mk.injEq] at H
     obtain ⟨rfl, rfl⟩ := H
     go_wp2
     go_ret2
     exact ⟨_, by first | rfl | (simp [errW_none, errW_some] <;> rfl) | (simp [*, errW_none, errW_some] <;> rfl), rk_ HO_9.out, bl_ HB.out⟩
 ·rw [if_neg c5] at H
  have c5b0 : (t339 == 0) = false := beq_eq_false_iff_ne.mpr c5
  have c5b1 : (t339 != 0) = true := bne_iff_ne.mpr c5
  simp only [Option.some.injEq, Prod.mk.injEq] at H
  obtain ⟨rfl, rfl⟩ := H
  go_enter Try.func23, Try.ntmps23
  go_wp2_with (first | ((with_reducible refine gate_callee (f := 103) rfl ?_); refine goesL_ (some 14) rfl rfl Try.func103 (by kernel_rfl) rfl #[.slice A0 l0.length c0, .slice A1 l1.length c1, .int .i64 a2] rfl ag_ ?_; (with_reducible refine (spec_l14Code.calls k _ _ l0 _ _ l1 a2 t339 _ ?side1 ?side2 ?side3 ?side4 A4.out).mono ?_); (case side1 => exact r13_ HR0.out); (case side2 => exact HC0.out); (case side3 => exact r13_ HR1.out); (case side4 => exact HC1.out); rintro e w20 ⟨rfl, hb⟩; refine ⟨_, rfl, ?_⟩; replace HB := Aside0.mk (below_step (bl_ HB.out) hb); (try clear hb); (try clear hb2); (try clear hk); (try clear hi)))
  go_ret2
  exact ⟨_, by first | rfl | (simp [errW_none, errW_some] <;> rfl) | (simp [*, errW_none, errW_some] <;> rfl), by first | exact Kd.R_nil _ _ _ _ _ | exact Kd.N_nil _ _ _ _ _ | exact Kd.V_nil _ _ _ _ _ | exact Kd.Q_nil _ _ _ _ _ | exact Kd.S_nil _ _ _ _ _, bl_ HB.out⟩
def laws_likeInts.l0 : Nat → List Int → List Int → Int → Option (Bool)
 | 0, _, _, _ => none
 | k + 1, x0, x1, x5 => if x5 < (x0.length : Int) then (if 0 ≤ x5 then (if x5 < (x1.length : Int) then (if (rd x0 x5) = (rd x1 x5) then (laws_likeInts.l0 k x0 x1 (wrap64 (x5 + 1))) else (some false)) else (none)) else (none)) else (some true)
def laws_likeInts.f (k : Nat) (l0 : List Int) (l1 : List Int) : Option (Bool) := if (l0.length : Int) = (l1.length : Int) then (laws_likeInts.l0 k l0 l1 0) else (some false)
set_option maxHeartbeats 8000000 in
set_option maxRecDepth 100000 in
theorem laws_likeInts.calls (k : Nat) (A0 : Option Addr) (c0 : Nat) (l0 : List Int) (A1 : Option Addr) (c1 : Nat) (l1 : List Int) (r : Bool) (w : World) (hr0 : Kd.C (Kd.int .i64) w A0 l0.length l0) (hc0 : l0.length ≤ c0) (hr1 : Kd.C (Kd.int .i64) w A1 l1.length l1) (hc1 : l1.length ≤ c1) (h : laws_likeInts.f k l0 l1 = some r) :
  Calls Try.prog 24 #[.slice A0 l0.length c0, .slice A1 l1.length c1] w fun e w' => e = .returned (.bool r) ∧ Drawn0 w w' := by
 have HR0 := Aside0.mk hr0
 have HC0 := Aside0.mk hc0
 clear hr0 hc0
 have HR1 := Aside0.mk hr1
 have HC1 := Aside0.mk hc1
 clear hr1 hc1
 have H : (if (l0.length : Int) = (l1.length : Int) then (laws_likeInts.l0 k l0 l1 0) else (some false)) = some r := h
 clear h
 by_cases c3 : (l0.length : Int) = (l1.length : Int)
 ·rw [if_pos c3] at H
  have c3b0 : ((l0.length : Int) == (l1.length : Int)) = true := beq_iff_eq.mpr c3
  have c3b1 : ((l0.length : Int) != (l1.length : Int)) = false := bne_eq_false_iff_eq.mpr c3
  have c3b2 : (l0.length == l1.length) = true := by first | simpa using c3 | (simp at c3 ⊢; omega)
  clear c3
  have H' := Aside0.mk H
  clear H
  go_enter Try.func24, Try.ntmps24
  go_wp2
  repeat (go_quiet (fail); try go_wp2)
  go_loopg [5] k (fun kq v5 w' => ∃ (x5_1 : Int), v5 = .int .i64 x5_1 ∧ Aside0 (laws_likeInts.l0 kq l0 l1 x5_1 = some r) ∧ Aside0 (kq ≤ k) ∧ Drawn0 w w')
  case atStart => exact ⟨(0), (by first | rfl | (simp; done) | (simp [*]; done)), H', ⟨Nat.le_refl _⟩, by repeat (first | exact Drawn0.refl _ | apply Drawn0.step)⟩
  case round =>
   clear H'
   try clear c1
   try clear c2
   try clear p2
   try clear c3
   try clear c3b0
   try clear c3b1
   try clear c3b2
   obtain ⟨x5_1, rfl, HA, HK1, ⟨m1, rfl⟩⟩ := hrel
   cases gk with
   | zero => exact absurd HA.out (by simp [laws_likeInts.l0])
   | succ k1 =>
    have H := HA.out
    clear HA
    simp only [laws_likeInts.l0] at H
    by_cases c4 : x5_1 < (l0.length : Int)
    ·rw [if_pos c4] at H
     have c4b0 : decide (x5_1 < (l0.length : Int)) = true := decide_eq_true c4
     clear c4
     by_cases c5 : 0 ≤ x5_1
     case neg =>
      rw [if_neg c5] at H
      exact absurd H (by simp)
     rw [if_pos c5] at H
     have c5b0 : decide (0 ≤ x5_1) = true := decide_eq_true c5
     clear c5
     by_cases c6 : x5_1 < (l1.length : Int)
     case neg =>
      rw [if_neg c6] at H
      exact absurd H (by simp)
     rw [if_pos c6] at H
     have c6b0 : decide (x5_1 < (l1.length : Int)) = true := decide_eq_true c6
     clear c6
     by_cases c7 : (rd l0 x5_1) = (rd l1 x5_1)
     ·rw [if_pos c7] at H
      have c7b0 : ((rd l0 x5_1) == (rd l1 x5_1)) = true := beq_iff_eq.mpr c7
      have c7b1 : ((rd l0 x5_1) != (rd l1 x5_1)) = false := bne_eq_false_iff_eq.mpr c7
      clear c7
      have H' := Aside0.mk H
      clear H
      have p349 : 0 ≤ (x5_1 : Int) := od_
      have q349 : x5_1 < (l0.length : Int) := od_
      obtain ⟨ad349, e349, hx349_0⟩ := Kd.at_int HR0.out x5_1 p349 q349
      cases e349
      replace p349 := eq_true p349
      replace q349 := eq_true q349
      have p350 : 0 ≤ (x5_1 : Int) := od_
      have q350 : x5_1 < (l1.length : Int) := od_
      obtain ⟨ad350, e350, hx350_0⟩ := Kd.at_int HR1.out x5_1 p350 q350
      cases e350
      replace p350 := eq_true p350
      replace q350 := eq_true q350
      go_wp2
      repeat (go_quiet (fail); try go_wp2)
      go_roundg k1
      case measure => have := HK1.out; omega
      case rel => exact ⟨(wrap64 (x5_1 + 1)), (by first | rfl | (simp; done) | (simp [*]; done)), H', ⟨by have := HK1.out; omega⟩, by repeat (first | exact Drawn0.refl _ | apply Drawn0.step)⟩
     ·rw [if_neg c7] at H
      have c7b0 : ((rd l0 x5_1) == (rd l1 x5_1)) = false := beq_eq_false_iff_ne.mpr c7
      have c7b1 : ((rd l0 x5_1) != (rd l1 x5_1)) = true := bne_iff_ne.mpr c7
      obtain rfl := Option.some.inj H
      have p349 : 0 ≤ (x5_1 : Int) := od_
      have q349 : x5_1 < (l0.length : Int) := od_
      obtain ⟨ad349, e349, hx349_0⟩ := Kd.at_int HR0.out x5_1 p349 q349
      cases e349
      replace p349 := eq_true p349
      replace q349 := eq_true q349
      have p350 : 0 ≤ (x5_1 : Int) := od_
      have q350 : x5_1 < (l1.length : Int) := od_
      obtain ⟨ad350, e350, hx350_0⟩ := Kd.at_int HR1.out x5_1 p350 q350
      cases e350
      replace p350 := eq_true p350
      replace q350 := eq_true q350
      go_wp2
      repeat (go_quiet (fail); try go_wp2)
      go_ret
      exact ⟨by first | rfl | (simp; done) | (simp [*]; done), by repeat (first | exact Drawn0.refl _ | apply Drawn0.step)⟩
    ·rw [if_neg c4] at H
     have c4b0 : decide (x5_1 < (l0.length : Int)) = false := decide_eq_false c4
     clear c4
     obtain rfl := Option.some.inj H
     go_wp2
     repeat (go_quiet (fail); try go_wp2)
     go_ret
     exact ⟨by first | rfl | (simp; done) | (simp [*]; done), by repeat (first | exact Drawn0.refl _ | apply Drawn0.step)⟩
 ·rw [if_neg c3] at H
  have c3b0 : ((l0.length : Int) == (l1.length : Int)) = false := beq_eq_false_iff_ne.mpr c3
  have c3b1 : ((l0.length : Int) != (l1.length : Int)) = true := bne_iff_ne.mpr c3
  have c3b2 : (l0.length == l1.length) = false := by first | simpa using c3 | (simp at c3 ⊢; omega)
  obtain rfl := Option.some.inj H
  go_enter Try.func24, Try.ntmps24
  go_wp2
  repeat (go_quiet (fail); try go_wp2)
  go_ret
  exact ⟨by first | rfl | (simp; done) | (simp [*]; done), by repeat (first | exact Drawn0.refl _ | apply Drawn0.step)⟩
def laws_hasInt.l0 : Nat → List Int → Int → Int → Option (Bool)
  | 0, _, _, _ => none
  | k + 1, x0, x1, x5 => if x5 < (x0.length : Int) then (if 0 ≤ x5 then (if (rd x0 x5) = x1 then (some true) else (laws_hasInt.l0 k x0 x1 (wrap64 (x5 + 1)))) else (none)) else (some false)
def laws_hasInt.f (k : Nat) (l0 : List Int) (a1 : Int) : Option (Bool) := laws_hasInt.l0 k l0 a1 0
set_option maxHeartbeats 8000000 in
set_option maxRecDepth 100000 in
theorem laws_hasInt.calls (k : Nat) (A0 : Option Addr) (c0 : Nat) (l0 : List Int) (a1 : Int) (r : Bool) (w : World) (hr0 : Kd.C (Kd.int .i64) w A0 l0.length l0) (hc0 : l0.length ≤ c0) (h : laws_hasInt.f k l0 a1 = some r) :
    Calls Try.prog 26 #[.slice A0 l0.length c0, .int .i64 a1] w fun e w' => e = .returned (.bool r) ∧ Drawn0 w w' := by
  have HR0 := Aside0.mk hr0
  have HC0 := Aside0.mk hc0
  clear hr0 hc0
  have H : (laws_hasInt.l0 k l0 a1 0) = some r := h
  clear h
  have H' := Aside0.mk H
  clear H
  go_enter Try.func26, Try.ntmps26
  go_wp2
  go_loopg [5] k (fun kq v5 w' => ∃ (x5_1 : Int), v5 = .int .i64 x5_1 ∧ Aside0 (laws_hasInt.l0 kq l0 a1 x5_1 = some r) ∧ Aside0 (kq ≤ k) ∧ Drawn0 w w')
  case atStart => exact ⟨(0), (by first | rfl | (simp; done) | (simp [*]; done)), H', ⟨Nat.le_refl _⟩, by repeat (first | exact Drawn0.refl _ | apply Drawn0.step)⟩
  case round =>
    clear H'
    try clear c2
    try clear p2
    obtain ⟨x5_1, rfl, HA, HK1, ⟨m1, rfl⟩⟩ := hrel
    cases gk with
    | zero => exact absurd HA.out (by simp [laws_hasInt.l0])
    | succ k1 =>
      have H := HA.out
      clear HA
      simp only [laws_hasInt.l0] at H
      by_cases c3 : x5_1 < (l0.length : Int)
      · rw [if_pos c3] at H
        have c3b0 : decide (x5_1 < (l0.length : Int)) = true := decide_eq_true c3
        clear c3
        by_cases c4 : 0 ≤ x5_1
        · rw [if_pos c4] at H
          have c4b0 : decide (0 ≤ x5_1) = true := decide_eq_true c4
          clear c4
          by_cases c5 : (rd l0 x5_1) = a1
          · rw [if_pos c5] at H
            have c5b0 : ((rd l0 x5_1) == a1) = true := beq_iff_eq.mpr c5
            have c5b1 : ((rd l0 x5_1) != a1) = false := bne_eq_false_iff_eq.mpr c5
            clear c5
            obtain rfl := Option.some.inj H
            have p351 : 0 ≤ (x5_1 : Int) := od_
            have q351 : x5_1 < (l0.length : Int) := od_
            obtain ⟨ad351, e351, hx351_0⟩ := Kd.at_int HR0.out x5_1 p351 q351
            cases e351
            replace p351 := eq_true p351
            replace q351 := eq_true q351
            go_wp2
            go_ret
            exact ⟨by first | rfl | (simp; done) | (simp [*]; done), by repeat (first | exact Drawn0.refl _ | apply Drawn0.step)⟩
          · rw [if_neg c5] at H
            have c5b0 : ((rd l0 x5_1) == a1) = false := beq_eq_false_iff_ne.mpr c5
            have c5b1 : ((rd l0 x5_1) != a1) = true := bne_iff_ne.mpr c5
            have H' := Aside0.mk H
            clear H
            have p351 : 0 ≤ (x5_1 : Int) := od_
            have q351 : x5_1 < (l0.length : Int) := od_
            obtain ⟨ad351, e351, hx351_0⟩ := Kd.at_int HR0.out x5_1 p351 q351
            cases e351
            replace p351 := eq_true p351
            replace q351 := eq_true q351
            go_wp2
            go_roundg k1
            case measure => have := HK1.out; omega
            case rel => exact ⟨(wrap64 (x5_1 + 1)), (by first | rfl | (simp; done) | (simp [*]; done)), H', ⟨by have := HK1.out; omega⟩, by repeat (first | exact Drawn0.refl _ | apply Drawn0.step)⟩
        · rw [if_neg c4] at H
          exact absurd H (by simp)
      · rw [if_neg c3] at H
        have c3b0 : decide (x5_1 < (l0.length : Int)) = false := decide_eq_false c3
        clear c3
        obtain rfl := Option.some.inj H
        go_wp2
        go_ret
        exact ⟨by first | rfl | (simp; done) | (simp [*]; done), by repeat (first | exact Drawn0.refl _ | apply Drawn0.step)⟩
mutual
def laws_FnCircuits.j0 : Nat → Int → Int → Int → Int → List (S26) → List Int → Int → List Int → Int → Bool → Int → List Int → Option (Bool)
 | 0, _, _, _, _, _, _, _, _, _, _, _, _ => none
 | k + 1, x6, x7, x10, x11, x14, x15, x16, x17, x18, x113, x360000, x360001 => if x113 = true then (some false) else (if x11 = 0 then ((impl_StateOf.f k x360000 x360001 x10 0).bind fun bt385 => (if bt385.2 = 0 then (if bt385.1 = 0 then (laws_FnCircuits.j1 k x6 x7 x14 x15 x16 x17 x18) else (some false)) else (some false))) else (laws_FnCircuits.j1 k x6 x7 x14 x15 x16 x17 x18))
def laws_FnCircuits.j1 : Nat → Int → Int → List (S26) → List Int → Int → List Int → Int → Option (Bool)
 | 0, _, _, _, _, _, _, _ => none
 | k + 1, x6, x7, x14, x15, x16, x17, x18 => laws_FnCircuits.l0 k x6 x7 x14 x15 x16 x17 x18 0
def laws_FnCircuits.l0 : Nat → Int → Int → List (S26) → List Int → Int → List Int → Int → Int → Option (Bool)
 | 0, _, _, _, _, _, _, _, _ => none
 | k + 1, x6, x7, x14, x15, x16, x17, x18, x23 => if x18 = 0 then (laws_FnCircuits.j3 k x6 x7 x14 x15 x16 x17 x18 x23 (decide (x23 < (x14.length : Int)))) else (laws_FnCircuits.j3 k x6 x7 x14 x15 x16 x17 x18 x23 false)
def laws_FnCircuits.j3 : Nat → Int → Int → List (S26) → List Int → Int → List Int → Int → Int → Bool → Option (Bool)
 | 0, _, _, _, _, _, _, _, _, _ => none
 | k + 1, x6, x7, x14, x15, x16, x17, x18, x23, x135 => if x135 = true then (if 0 ≤ x23 then (if x23 < (x14.length : Int) then (if x23 < (x15.length : Int) then ((impl_StateOf.f k ((rd_T26 x14 x23).f0) ((rd_T26 x14 x23).f1) (rd x15 x23) x16).bind fun bt389 => (if bt389.2 = 0 then ((laws_hasInt.f k x17 x23).bind fun t391 => (if (t391 != (bt389.1 != 0)) = true then (some false) else (laws_FnCircuits.l0 k x6 x7 x14 x15 x16 x17 x18 (wrap64 (x23 + 1))))) else (some false))) else (none)) else (none)) else (none)) else (if x7 = 0 then (if x6 ≥ 0 then (some (decide (x6 ≤ 3))) else (some false)) else (some true))
end
def laws_FnCircuits.f (k : Nat) (l0 : List Int) : Option (Bool) := (laws_big.f l0).bind fun t352 => (if t352 = true then (some true) else ((spec_DrawStateOf.f k l0).bind fun bt353 => ((impl_StateOf.f k bt353.1 bt353.2.1 bt353.2.2.1 bt353.2.2.2).bind fun bt360 => ((spec_StateOf.f k bt353.1 bt353.2.1 bt353.2.2.1 bt353.2.2.2).bind fun bt362 => ((impl_ExpectedOf.f k bt353.1 bt353.2.1).bind fun bt364 => ((spec_ExpectedOf.f k bt353.1 bt353.2.1).bind fun bt366 => ((spec_DrawWorstPins.f k l0).bind fun bt368 => ((impl_WorstPins.f k bt368.1 bt368.2.1 bt368.2.2).bind fun bt375 => ((spec_WorstPins.f k bt368.1 bt368.2.1 bt368.2.2).bind fun bt379 => (if bt360.2 = bt362.2 then (if bt360.1 = bt362.1 then (if bt364.2 = bt366.2 then (if bt364.1 = bt366.1 then (if bt375.2 = bt379.2 then ((laws_likeInts.f k bt375.1 bt379.1).bind fun t383 => (if t383 = true then ((impl_IsCircuit.f k bt353.1 bt353.2.1).bind fun t384 => (laws_FnCircuits.j0 k bt360.1 bt360.2 bt364.1 bt364.2 bt368.1 bt368.2.1 bt368.2.2 bt375.1 bt375.2 (t384 != (bt366.2 == 0)) bt353.1 bt353.2.1)) else (laws_FnCircuits.j0 k bt360.1 bt360.2 bt364.1 bt364.2 bt368.1 bt368.2.1 bt368.2.2 bt375.1 bt375.2 true bt353.1 bt353.2.1))) else (laws_FnCircuits.j0 k bt360.1 bt360.2 bt364.1 bt364.2 bt368.1 bt368.2.1 bt368.2.2 bt375.1 bt375.2 true bt353.1 bt353.2.1)) else (laws_FnCircuits.j0 k bt360.1 bt360.2 bt364.1 bt364.2 bt368.1 bt368.2.1 bt368.2.2 bt375.1 bt375.2 true bt353.1 bt353.2.1)) else (laws_FnCircuits.j0 k bt360.1 bt360.2 bt364.1 bt364.2 bt368.1 bt368.2.1 bt368.2.2 bt375.1 bt375.2 true bt353.1 bt353.2.1)) else (laws_FnCircuits.j0 k bt360.1 bt360.2 bt364.1 bt364.2 bt368.1 bt368.2.1 bt368.2.2 bt375.1 bt375.2 true bt353.1 bt353.2.1)) else (laws_FnCircuits.j0 k bt360.1 bt360.2 bt364.1 bt364.2 bt368.1 bt368.2.1 bt368.2.2 bt375.1 bt375.2 true bt353.1 bt353.2.1)))))))))))
def laws_FnCircuits.T20 : Bool × List (List Nat × List Nat) := (true, [([], []), ([], []), ([0, 1], [0, 1]), ([2], [2]), ([], []), ([], []), ([4, 5], [4, 5]), ([6], [6]), ([], []), ([3, 7, 8], [3, 7, 8]), ([9], [9]), ([10], [10]), ([10], [10]), ([11, 9, 0, 1, 2, 3, 4, 5, 6, 7, 8, 9, 10, 11], [11]), ([12, 13, 0, 1, 2, 3, 4, 5, 6, 7, 8, 9, 10, 11, 12, 13], [12])])
def laws_FnCircuits.B20 : List Nat := [0, 0, 3, 7, 0, 0, 48, 112, 0, 511, 1023, 2047, 2047, 4095, 16383]
theorem laws_FnCircuits.tab20 : rtab .any (opsOf Try.f3 20) = laws_FnCircuits.T20 := by kernel_rfl
theorem laws_FnCircuits.bits20 : waitsOk laws_FnCircuits.T20.2 laws_FnCircuits.B20 = true := by kernel_rfl
theorem laws_FnCircuits.j0_true {k : Nat} {a0} {a1} {a2} {a3} {a4} {a5} {a6} {a7} {a8} {a10} {a11} {r : Bool} (h : laws_FnCircuits.j0 k a0 a1 a2 a3 a4 a5 a6 a7 a8 true a10 a11 = some r) : false = r := by
 cases k with
 | zero => simp [laws_FnCircuits.j0] at h
 | succ k => simpa [laws_FnCircuits.j0] using h
set_option maxHeartbeats 8000000 in
set_option maxRecDepth 100000 in
theorem laws_FnCircuits.calls (k : Nat) (A0 : Option Addr) (c0 : Nat) (l0 : List Int) (r : Bool) (w : World) (hr0 : Kd.C (Kd.int .u8) w A0 l0.length l0) (hc0 : l0.length ≤ c0) (h : laws_FnCircuits.f k l0 = some r) (hT : r = true) :
  Calls Try.prog 3 #[.slice A0 l0.length c0] w fun e w' => e = .returned (.bool r) ∧ Below w.heap.size w w' := by
 have hu26 := Try.underlying26
 have HR0 := Aside0.mk hr0
 have HC0 := Aside0.mk hc0
 clear hr0 hc0
 have HB := Aside0.mk (Below.refl w.heap.size w)
 have H : ((laws_big.f l0).bind fun t352 => (if t352 = true then (some true) else ((spec_DrawStateOf.f k l0).bind fun bt353 => ((impl_StateOf.f k bt353.1 bt353.2.1 bt353.2.2.1 bt353.2.2.2).bind fun bt360 => ((spec_StateOf.f k bt353.1 bt353.2.1 bt353.2.2.1 bt353.2.2.2).bind fun bt362 => ((impl_ExpectedOf.f k bt353.1 bt353.2.1).bind fun bt364 => ((spec_ExpectedOf.f k bt353.1 bt353.2.1).bind fun bt366 => ((spec_DrawWorstPins.f k l0).bind fun bt368 => ((impl_WorstPins.f k bt368.1 bt368.2.1 bt368.2.2).bind fun bt375 => ((spec_WorstPins.f k bt368.1 bt368.2.1 bt368.2.2).bind fun bt379 => (if bt360.2 = bt362.2 then (if bt360.1 = bt362.1 then (if bt364.2 = bt366.2 then (if bt364.1 = bt366.1 then (if bt375.2 = bt379.2 then ((laws_likeInts.f k bt375.1 bt379.1).bind fun t383 => (if t383 = true then ((impl_IsCircuit.f k bt353.1 bt353.2.1).bind fun t384 => (laws_FnCircuits.j0 k bt360.1 bt360.2 bt364.1 bt364.2 bt368.1 bt368.2.1 bt368.2.2 bt375.1 bt375.2 (t384 != (bt366.2 == 0)) bt353.1 bt353.2.1)) else (laws_FnCircuits.j0 k bt360.1 bt360.2 bt364.1 bt364.2 bt368.1 bt368.2.1 bt368.2.2 bt375.1 bt375.2 true bt353.1 bt353.2.1))) else (laws_FnCircuits.j0 k bt360.1 bt360.2 bt364.1 bt364.2 bt368.1 bt368.2.1 bt368.2.2 bt375.1 bt375.2 true bt353.1 bt353.2.1)) else (laws_FnCircuits.j0 k bt360.1 bt360.2 bt364.1 bt364.2 bt368.1 bt368.2.1 bt368.2.2 bt375.1 bt375.2 true bt353.1 bt353.2.1)) else (laws_FnCircuits.j0 k bt360.1 bt360.2 bt364.1 bt364.2 bt368.1 bt368.2.1 bt368.2.2 bt375.1 bt375.2 true bt353.1 bt353.2.1)) else (laws_FnCircuits.j0 k bt360.1 bt360.2 bt364.1 bt364.2 bt368.1 bt368.2.1 bt368.2.2 bt375.1 bt375.2 true bt353.1 bt353.2.1)) else (laws_FnCircuits.j0 k bt360.1 bt360.2 bt364.1 bt364.2 bt368.1 bt368.2.1 bt368.2.2 bt375.1 bt375.2 true bt353.1 bt353.2.1)))))))))))) = some r := h
 clear h
 replace H := Option.bind_eq_some_iff.mp H
 obtain ⟨t352, A20, H⟩ := H
 replace H : (if t352 = true then (some true) else ((spec_DrawStateOf.f k l0).bind fun bt353 => ((impl_StateOf.f k bt353.1 bt353.2.1 bt353.2.2.1 bt353.2.2.2).bind fun bt360 => ((spec_StateOf.f k bt353.1 bt353.2.1 bt353.2.2.1 bt353.2.2.2).bind fun bt362 => ((impl_ExpectedOf.f k bt353.1 bt353.2.1).bind fun bt364 => ((spec_ExpectedOf.f k bt353.1 bt353.2.1).bind fun bt366 => ((spec_DrawWorstPins.f k l0).bind fun bt368 => ((impl_WorstPins.f k bt368.1 bt368.2.1 bt368.2.2).bind fun bt375 => ((spec_WorstPins.f k bt368.1 bt368.2.1 bt368.2.2).bind fun bt379 => (if bt360.2 = bt362.2 then (if bt360.1 = bt362.1 then (if bt364.2 = bt366.2 then (if bt364.1 = bt366.1 then (if bt375.2 = bt379.2 then ((laws_likeInts.f k bt375.1 bt379.1).bind fun t383 => (if t383 = true then ((impl_IsCircuit.f k bt353.1 bt353.2.1).bind fun t384 => (laws_FnCircuits.j0 k bt360.1 bt360.2 bt364.1 bt364.2 bt368.1 bt368.2.1 bt368.2.2 bt375.1 bt375.2 (t384 != (bt366.2 == 0)) bt353.1 bt353.2.1)) else (laws_FnCircuits.j0 k bt360.1 bt360.2 bt364.1 bt364.2 bt368.1 bt368.2.1 bt368.2.2 bt375.1 bt375.2 true bt353.1 bt353.2.1))) else (laws_FnCircuits.j0 k bt360.1 bt360.2 bt364.1 bt364.2 bt368.1 bt368.2.1 bt368.2.2 bt375.1 bt375.2 true bt353.1 bt353.2.1)) else (laws_FnCircuits.j0 k bt360.1 bt360.2 bt364.1 bt364.2 bt368.1 bt368.2.1 bt368.2.2 bt375.1 bt375.2 true bt353.1 bt353.2.1)) else (laws_FnCircuits.j0 k bt360.1 bt360.2 bt364.1 bt364.2 bt368.1 bt368.2.1 bt368.2.2 bt375.1 bt375.2 true bt353.1 bt353.2.1)) else (laws_FnCircuits.j0 k bt360.1 bt360.2 bt364.1 bt364.2 bt368.1 bt368.2.1 bt368.2.2 bt375.1 bt375.2 true bt353.1 bt353.2.1)) else (laws_FnCircuits.j0 k bt360.1 bt360.2 bt364.1 bt364.2 bt368.1 bt368.2.1 bt368.2.2 bt375.1 bt375.2 true bt353.1 bt353.2.1))))))))))) = some r := H
 have A2 := Aside0.mk A20
 clear A20
 by_cases c3 : t352 = true
 ·subst c3
  replace H : (some true) = some r := by rw [if_pos rfl] at H; exact H
  obtain rfl := Option.some.inj H
  go_enter Try.func3, Try.ntmps3
  go_wp2_with (first | ((with_reducible refine gate_callee (f := 15) rfl ?_); refine goesL_ (some 27) rfl rfl Try.func15 (by kernel_rfl) rfl #[.slice A0 l0.length c0] rfl ag_ ?_; (with_reducible refine (laws_big.calls _ _ l0 true _ ?side1 ?side2 A2.out).mono ?_); (case side1 => exact r13_ HR0.out); (case side2 => exact HC0.out); rintro e w' ⟨rfl, ⟨nd, rfl⟩⟩; refine ⟨_, rfl, ?_⟩))
  go_ret
  exact ⟨by first | rfl | (simp [errW_none, errW_some] <;> rfl) | (simp [*, errW_none, errW_some] <;> rfl), bl_ HB.out⟩
 ·as_aux_lemma =>
   replace c3 := Bool.eq_false_iff.mpr c3
   subst c3
   replace H : ((spec_DrawStateOf.f k l0).bind fun bt353 => ((impl_StateOf.f k bt353.1 bt353.2.1 bt353.2.2.1 bt353.2.2.2).bind fun bt360 => ((spec_StateOf.f k bt353.1 bt353.2.1 bt353.2.2.1 bt353.2.2.2).bind fun bt362 => ((impl_ExpectedOf.f k bt353.1 bt353.2.1).bind fun bt364 => ((spec_ExpectedOf.f k bt353.1 bt353.2.1).bind fun bt366 => ((spec_DrawWorstPins.f k l0).bind fun bt368 => ((impl_WorstPins.f k bt368.1 bt368.2.1 bt368.2.2).bind fun bt375 => ((spec_WorstPins.f k bt368.1 bt368.2.1 bt368.2.2).bind fun bt379 => (if bt360.2 = bt362.2 then (if bt360.1 = bt362.1 then (if bt364.2 = bt366.2 then (if bt364.1 = bt366.1 then (if bt375.2 = bt379.2 then ((laws_likeInts.f k bt375.1 bt379.1).bind fun t383 => (if t383 = true then ((impl_IsCircuit.f k bt353.1 bt353.2.1).bind fun t384 => (laws_FnCircuits.j0 k bt360.1 bt360.2 bt364.1 bt364.2 bt368.1 bt368.2.1 bt368.2.2 bt375.1 bt375.2 (t384 != (bt366.2 == 0)) bt353.1 bt353.2.1)) else (laws_FnCircuits.j0 k bt360.1 bt360.2 bt364.1 bt364.2 bt368.1 bt368.2.1 bt368.2.2 bt375.1 bt375.2 true bt353.1 bt353.2.1))) else (laws_FnCircuits.j0 k bt360.1 bt360.2 bt364.1 bt364.2 bt368.1 bt368.2.1 bt368.2.2 bt375.1 bt375.2 true bt353.1 bt353.2.1)) else (laws_FnCircuits.j0 k bt360.1 bt360.2 bt364.1 bt364.2 bt368.1 bt368.2.1 bt368.2.2 bt375.1 bt375.2 true bt353.1 bt353.2.1)) else (laws_FnCircuits.j0 k bt360.1 bt360.2 bt364.1 bt364.2 bt368.1 bt368.2.1 bt368.2.2 bt375.1 bt375.2 true bt353.1 bt353.2.1)) else (laws_FnCircuits.j0 k bt360.1 bt360.2 bt364.1 bt364.2 bt368.1 bt368.2.1 bt368.2.2 bt375.1 bt375.2 true bt353.1 bt353.2.1)) else (laws_FnCircuits.j0 k bt360.1 bt360.2 bt364.1 bt364.2 bt368.1 bt368.2.1 bt368.2.2 bt375.1 bt375.2 true bt353.1 bt353.2.1)))))))))) = some r := by rw [if_neg (show ¬ (false = true) by decide)] at H; exact H
   replace H := Option.bind_eq_some_iff.mp H
   obtain ⟨⟨t353, t354, t357, t358⟩, A40, H⟩ := H
   replace H : ((impl_StateOf.f k t353 t354 t357 t358).bind fun bt360 => ((spec_StateOf.f k t353 t354 t357 t358).bind fun bt362 => ((impl_ExpectedOf.f k t353 t354).bind fun bt364 => ((spec_ExpectedOf.f k t353 t354).bind fun bt366 => ((spec_DrawWorstPins.f k l0).bind fun bt368 => ((impl_WorstPins.f k bt368.1 bt368.2.1 bt368.2.2).bind fun bt375 => ((spec_WorstPins.f k bt368.1 bt368.2.1 bt368.2.2).bind fun bt379 => (if bt360.2 = bt362.2 then (if bt360.1 = bt362.1 then (if bt364.2 = bt366.2 then (if bt364.1 = bt366.1 then (if bt375.2 = bt379.2 then ((laws_likeInts.f k bt375.1 bt379.1).bind fun t383 => (if t383 = true then ((impl_IsCircuit.f k t353 t354).bind fun t384 => (laws_FnCircuits.j0 k bt360.1 bt360.2 bt364.1 bt364.2 bt368.1 bt368.2.1 bt368.2.2 bt375.1 bt375.2 (t384 != (bt366.2 == 0)) t353 t354)) else (laws_FnCircuits.j0 k bt360.1 bt360.2 bt364.1 bt364.2 bt368.1 bt368.2.1 bt368.2.2 bt375.1 bt375.2 true t353 t354))) else (laws_FnCircuits.j0 k bt360.1 bt360.2 bt364.1 bt364.2 bt368.1 bt368.2.1 bt368.2.2 bt375.1 bt375.2 true t353 t354)) else (laws_FnCircuits.j0 k bt360.1 bt360.2 bt364.1 bt364.2 bt368.1 bt368.2.1 bt368.2.2 bt375.1 bt375.2 true t353 t354)) else (laws_FnCircuits.j0 k bt360.1 bt360.2 bt364.1 bt364.2 bt368.1 bt368.2.1 bt368.2.2 bt375.1 bt375.2 true t353 t354)) else (laws_FnCircuits.j0 k bt360.1 bt360.2 bt364.1 bt364.2 bt368.1 bt368.2.1 bt368.2.2 bt375.1 bt375.2 true t353 t354)) else (laws_FnCircuits.j0 k bt360.1 bt360.2 bt364.1 bt364.2 bt368.1 bt368.2.1 bt368.2.2 bt375.1 bt375.2 true t353 t354))))))))) = some r := H
   have A4 := Aside0.mk A40
   clear A40
   replace H := Option.bind_eq_some_iff.mp H
   obtain ⟨⟨t360, t361⟩, A50, H⟩ := H
   replace H : ((spec_StateOf.f k t353 t354 t357 t358).bind fun bt362 => ((impl_ExpectedOf.f k t353 t354).bind fun bt364 => ((spec_ExpectedOf.f k t353 t354).bind fun bt366 => ((spec_DrawWorstPins.f k l0).bind fun bt368 => ((impl_WorstPins.f k bt368.1 bt368.2.1 bt368.2.2).bind fun bt375 => ((spec_WorstPins.f k bt368.1 bt368.2.1 bt368.2.2).bind fun bt379 => (if t361 = bt362.2 then (if t360 = bt362.1 then (if bt364.2 = bt366.2 then (if bt364.1 = bt366.1 then (if bt375.2 = bt379.2 then ((laws_likeInts.f k bt375.1 bt379.1).bind fun t383 => (if t383 = true then ((impl_IsCircuit.f k t353 t354).bind fun t384 => (laws_FnCircuits.j0 k t360 t361 bt364.1 bt364.2 bt368.1 bt368.2.1 bt368.2.2 bt375.1 bt375.2 (t384 != (bt366.2 == 0)) t353 t354)) else (laws_FnCircuits.j0 k t360 t361 bt364.1 bt364.2 bt368.1 bt368.2.1 bt368.2.2 bt375.1 bt375.2 true t353 t354))) else (laws_FnCircuits.j0 k t360 t361 bt364.1 bt364.2 bt368.1 bt368.2.1 bt368.2.2 bt375.1 bt375.2 true t353 t354)) else (laws_FnCircuits.j0 k t360 t361 bt364.1 bt364.2 bt368.1 bt368.2.1 bt368.2.2 bt375.1 bt375.2 true t353 t354)) else (laws_FnCircuits.j0 k t360 t361 bt364.1 bt364.2 bt368.1 bt368.2.1 bt368.2.2 bt375.1 bt375.2 true t353 t354)) else (laws_FnCircuits.j0 k t360 t361 bt364.1 bt364.2 bt368.1 bt368.2.1 bt368.2.2 bt375.1 bt375.2 true t353 t354)) else (laws_FnCircuits.j0 k t360 t361 bt364.1 bt364.2 bt368.1 bt368.2.1 bt368.2.2 bt375.1 bt375.2 true t353 t354)))))))) = some r := H
   have A5 := Aside0.mk A50
   clear A50
   replace H := Option.bind_eq_some_iff.mp H
   obtain ⟨⟨t362, t363⟩, A60, H⟩ := H
   replace H : ((impl_ExpectedOf.f k t353 t354).bind fun bt364 => ((spec_ExpectedOf.f k t353 t354).bind fun bt366 => ((spec_DrawWorstPins.f k l0).bind fun bt368 => ((impl_WorstPins.f k bt368.1 bt368.2.1 bt368.2.2).bind fun bt375 => ((spec_WorstPins.f k bt368.1 bt368.2.1 bt368.2.2).bind fun bt379 => (if t361 = t363 then (if t360 = t362 then (if bt364.2 = bt366.2 then (if bt364.1 = bt366.1 then (if bt375.2 = bt379.2 then ((laws_likeInts.f k bt375.1 bt379.1).bind fun t383 => (if t383 = true then ((impl_IsCircuit.f k t353 t354).bind fun t384 => (laws_FnCircuits.j0 k t360 t361 bt364.1 bt364.2 bt368.1 bt368.2.1 bt368.2.2 bt375.1 bt375.2 (t384 != (bt366.2 == 0)) t353 t354)) else (laws_FnCircuits.j0 k t360 t361 bt364.1 bt364.2 bt368.1 bt368.2.1 bt368.2.2 bt375.1 bt375.2 true t353 t354))) else (laws_FnCircuits.j0 k t360 t361 bt364.1 bt364.2 bt368.1 bt368.2.1 bt368.2.2 bt375.1 bt375.2 true t353 t354)) else (laws_FnCircuits.j0 k t360 t361 bt364.1 bt364.2 bt368.1 bt368.2.1 bt368.2.2 bt375.1 bt375.2 true t353 t354)) else (laws_FnCircuits.j0 k t360 t361 bt364.1 bt364.2 bt368.1 bt368.2.1 bt368.2.2 bt375.1 bt375.2 true t353 t354)) else (laws_FnCircuits.j0 k t360 t361 bt364.1 bt364.2 bt368.1 bt368.2.1 bt368.2.2 bt375.1 bt375.2 true t353 t354)) else (laws_FnCircuits.j0 k t360 t361 bt364.1 bt364.2 bt368.1 bt368.2.1 bt368.2.2 bt375.1 bt375.2 true t353 t354))))))) = some r := H
   have A6 := Aside0.mk A60
   clear A60
   replace H := Option.bind_eq_some_iff.mp H
   obtain ⟨⟨t364, t365⟩, A70, H⟩ := H
   replace H : ((spec_ExpectedOf.f k t353 t354).bind fun bt366 => ((spec_DrawWorstPins.f k l0).bind fun bt368 => ((impl_WorstPins.f k bt368.1 bt368.2.1 bt368.2.2).bind fun bt375 => ((spec_WorstPins.f k bt368.1 bt368.2.1 bt368.2.2).bind fun bt379 => (if t361 = t363 then (if t360 = t362 then (if t365 = bt366.2 then (if t364 = bt366.1 then (if bt375.2 = bt379.2 then ((laws_likeInts.f k bt375.1 bt379.1).bind fun t383 => (if t383 = true then ((impl_IsCircuit.f k t353 t354).bind fun t384 => (laws_FnCircuits.j0 k t360 t361 t364 t365 bt368.1 bt368.2.1 bt368.2.2 bt375.1 bt375.2 (t384 != (bt366.2 == 0)) t353 t354)) else (laws_FnCircuits.j0 k t360 t361 t364 t365 bt368.1 bt368.2.1 bt368.2.2 bt375.1 bt375.2 true t353 t354))) else (laws_FnCircuits.j0 k t360 t361 t364 t365 bt368.1 bt368.2.1 bt368.2.2 bt375.1 bt375.2 true t353 t354)) else (laws_FnCircuits.j0 k t360 t361 t364 t365 bt368.1 bt368.2.1 bt368.2.2 bt375.1 bt375.2 true t353 t354)) else (laws_FnCircuits.j0 k t360 t361 t364 t365 bt368.1 bt368.2.1 bt368.2.2 bt375.1 bt375.2 true t353 t354)) else (laws_FnCircuits.j0 k t360 t361 t364 t365 bt368.1 bt368.2.1 bt368.2.2 bt375.1 bt375.2 true t353 t354)) else (laws_FnCircuits.j0 k t360 t361 t364 t365 bt368.1 bt368.2.1 bt368.2.2 bt375.1 bt375.2 true t353 t354)))))) = some r := H
   have A7 := Aside0.mk A70
   clear A70
   replace H := Option.bind_eq_some_iff.mp H
   obtain ⟨⟨t366, t367⟩, A80, H⟩ := H
   replace H : ((spec_DrawWorstPins.f k l0).bind fun bt368 => ((impl_WorstPins.f k bt368.1 bt368.2.1 bt368.2.2).bind fun bt375 => ((spec_WorstPins.f k bt368.1 bt368.2.1 bt368.2.2).bind fun bt379 => (if t361 = t363 then (if t360 = t362 then (if t365 = t367 then (if t364 = t366 then (if bt375.2 = bt379.2 then ((laws_likeInts.f k bt375.1 bt379.1).bind fun t383 => (if t383 = true then ((impl_IsCircuit.f k t353 t354).bind fun t384 => (laws_FnCircuits.j0 k t360 t361 t364 t365 bt368.1 bt368.2.1 bt368.2.2 bt375.1 bt375.2 (t384 != (t367 == 0)) t353 t354)) else (laws_FnCircuits.j0 k t360 t361 t364 t365 bt368.1 bt368.2.1 bt368.2.2 bt375.1 bt375.2 true t353 t354))) else (laws_FnCircuits.j0 k t360 t361 t364 t365 bt368.1 bt368.2.1 bt368.2.2 bt375.1 bt375.2 true t353 t354)) else (laws_FnCircuits.j0 k t360 t361 t364 t365 bt368.1 bt368.2.1 bt368.2.2 bt375.1 bt375.2 true t353 t354)) else (laws_FnCircuits.j0 k t360 t361 t364 t365 bt368.1 bt368.2.1 bt368.2.2 bt375.1 bt375.2 true t353 t354)) else (laws_FnCircuits.j0 k t360 t361 t364 t365 bt368.1 bt368.2.1 bt368.2.2 bt375.1 bt375.2 true t353 t354)) else (laws_FnCircuits.j0 k t360 t361 t364 t365 bt368.1 bt368.2.1 bt368.2.2 bt375.1 bt375.2 true t353 t354))))) = some r := H
   have A8 := Aside0.mk A80
   clear A80
   replace H := Option.bind_eq_some_iff.mp H
   obtain ⟨⟨t368, t369, t370⟩, A90, H⟩ := H
   replace H : ((impl_WorstPins.f k t368 t369 t370).bind fun bt375 => ((spec_WorstPins.f k t368 t369 t370).bind fun bt379 => (if t361 = t363 then (if t360 = t362 then (if t365 = t367 then (if t364 = t366 then (if bt375.2 = bt379.2 then ((laws_likeInts.f k bt375.1 bt379.1).bind fun t383 => (if t383 = true then ((impl_IsCircuit.f k t353 t354).bind fun t384 => (laws_FnCircuits.j0 k t360 t361 t364 t365 t368 t369 t370 bt375.1 bt375.2 (t384 != (t367 == 0)) t353 t354)) else (laws_FnCircuits.j0 k t360 t361 t364 t365 t368 t369 t370 bt375.1 bt375.2 true t353 t354))) else (laws_FnCircuits.j0 k t360 t361 t364 t365 t368 t369 t370 bt375.1 bt375.2 true t353 t354)) else (laws_FnCircuits.j0 k t360 t361 t364 t365 t368 t369 t370 bt375.1 bt375.2 true t353 t354)) else (laws_FnCircuits.j0 k t360 t361 t364 t365 t368 t369 t370 bt375.1 bt375.2 true t353 t354)) else (laws_FnCircuits.j0 k t360 t361 t364 t365 t368 t369 t370 bt375.1 bt375.2 true t353 t354)) else (laws_FnCircuits.j0 k t360 t361 t364 t365 t368 t369 t370 bt375.1 bt375.2 true t353 t354)))) = some r := H
   have A9 := Aside0.mk A90
   clear A90
   replace H := Option.bind_eq_some_iff.mp H
   obtain ⟨⟨t375, t376⟩, A100, H⟩ := H
   replace H : ((spec_WorstPins.f k t368 t369 t370).bind fun bt379 => (if t361 = t363 then (if t360 = t362 then (if t365 = t367 then (if t364 = t366 then (if t376 = bt379.2 then ((laws_likeInts.f k t375 bt379.1).bind fun t383 => (if t383 = true then ((impl_IsCircuit.f k t353 t354).bind fun t384 => (laws_FnCircuits.j0 k t360 t361 t364 t365 t368 t369 t370 t375 t376 (t384 != (t367 == 0)) t353 t354)) else (laws_FnCircuits.j0 k t360 t361 t364 t365 t368 t369 t370 t375 t376 true t353 t354))) else (laws_FnCircuits.j0 k t360 t361 t364 t365 t368 t369 t370 t375 t376 true t353 t354)) else (laws_FnCircuits.j0 k t360 t361 t364 t365 t368 t369 t370 t375 t376 true t353 t354)) else (laws_FnCircuits.j0 k t360 t361 t364 t365 t368 t369 t370 t375 t376 true t353 t354)) else (laws_FnCircuits.j0 k t360 t361 t364 t365 t368 t369 t370 t375 t376 true t353 t354)) else (laws_FnCircuits.j0 k t360 t361 t364 t365 t368 t369 t370 t375 t376 true t353 t354))) = some r := H
   have A10 := Aside0.mk A100
   clear A100
   replace H := Option.bind_eq_some_iff.mp H
   obtain ⟨⟨t379, t380⟩, A110, H⟩ := H
   replace H : (if t361 = t363 then (if t360 = t362 then (if t365 = t367 then (if t364 = t366 then (if t376 = t380 then ((laws_likeInts.f k t375 t379).bind fun t383 => (if t383 = true then ((impl_IsCircuit.f k t353 t354).bind fun t384 => (laws_FnCircuits.j0 k t360 t361 t364 t365 t368 t369 t370 t375 t376 (t384 != (t367 == 0)) t353 t354)) else (laws_FnCircuits.j0 k t360 t361 t364 t365 t368 t369 t370 t375 t376 true t353 t354))) else (laws_FnCircuits.j0 k t360 t361 t364 t365 t368 t369 t370 t375 t376 true t353 t354)) else (laws_FnCircuits.j0 k t360 t361 t364 t365 t368 t369 t370 t375 t376 true t353 t354)) else (laws_FnCircuits.j0 k t360 t361 t364 t365 t368 t369 t370 t375 t376 true t353 t354)) else (laws_FnCircuits.j0 k t360 t361 t364 t365 t368 t369 t370 t375 t376 true t353 t354)) else (laws_FnCircuits.j0 k t360 t361 t364 t365 t368 t369 t370 t375 t376 true t353 t354)) = some r := H
   have A11 := Aside0.mk A110
   clear A110
   have HC12 := Aside0.mk H
   clear H
   go_enter Try.func3, Try.ntmps3
   go_upto_region 11 with (first | ((with_reducible refine gate_callee (f := 15) rfl ?_); refine goesL_ (some 27) rfl rfl Try.func15 (by kernel_rfl) rfl #[.slice A0 l0.length c0] rfl ag_ ?_; (with_reducible refine (laws_big.calls _ _ l0 false _ ?side1 ?side2 A2.out).mono ?_); (case side1 => exact r13_ HR0.out); (case side2 => exact HC0.out); rintro e w' ⟨rfl, ⟨nd, rfl⟩⟩; refine ⟨_, rfl, ?_⟩) | ((with_reducible refine gate_callee (f := 16) rfl ?_); refine goesL_ (some 30) rfl rfl Try.func16 (by kernel_rfl) rfl #[.slice A0 l0.length c0] rfl ag_ ?_; (with_reducible refine (spec_DrawStateOf.calls k _ _ l0 t353 t354 t357 t358 _ ?side1 ?side2 A4.out).mono ?_); (case side1 => exact r13_ HR0.out); (case side2 => exact HC0.out); rintro e w13 ⟨v355, rfl, ho0, hb⟩; refine ⟨_, rfl, ?_⟩; have HO356 := Aside0.mk (Kd.R_lower ho0 (below_size (bl_ HB.out))); replace HB := Aside0.mk (below_step (bl_ HB.out) hb); (try clear hb); (try clear hb2); (try clear hk); (try clear hi); (try clear ho0)) | ((with_reducible refine gate_dst (N := 3) rfl ?_); (try (refine gate_guard (by rfl) ?_; dsimp only)); refine box_event ?hg (N := 3) ?hd (cs := #[.int .i64 0, .slice none 0 0]) (t := 26) ?hr ?_; (case hd => rfl); (case hg => rfl); (case hr => first | (go_simp; done) | (go_simp; rfl)); intro gb359 hg w14 hbox hb; replace HO356 := Aside0.mk (Kd.R_below (rk_ HO356.out) hb); have BK359 := Aside0.mk (hbox); have GW359 := Aside0.mk ((by rw [hg]; exact (below_size (bl_ HB.out)) : w.heap.size ≤ gb359)); have GE359 := Aside0.mk ((by rw [hg]; exact (below_size (bl_ HB.out)) : w.heap.size ≤ gb359)); replace HB := Aside0.mk (below_step (bl_ HB.out) hb); clear hb hbox hg; have hcz15_0 : w14.cell? ⟨gb359, 0, none⟩ = some (.int .i64 0) := (blk_cell BK359.out 0).trans rfl; have hcz15_1 : w14.cell? ⟨gb359, 1, none⟩ = some (.slice none 0 0) := (blk_cell BK359.out 1).trans rfl; have hfz15_0 := blk_frozen BK359.out 0; have hfz15_1 := blk_frozen BK359.out 1; obtain ⟨Ao16, co16, eo16⟩ := Kd.R_slice HO356.out; subst eo16) | ((with_reducible refine gate_callee (f := 17) rfl ?_); refine goesL_ (some 38) rfl rfl Try.func17 (by kernel_rfl) rfl #[.agg #[.int .i64 t353, .slice Ao16 t354.length co16], .int .i64 t357, .int .i64 t358] rfl ag_ ?_; (with_reducible refine (impl_StateOf.calls k t353 _ _ t354 t357 t358 t360 t361 _ ?side1 ?side2 A5.out).mono ?_); (case side1 => refine (Kd.R_reads' (e := 2) (base := w.heap.size) (ok := fun k_ => True) (n := t354.length) (c := co16) ?_).2.2; exact (rk_ ((Kd.R_mono (Kd.R_far (p := ⟨gb359, 1, none⟩) (Kd.R_far (p := ⟨gb359, 0, none⟩) (Kd.R_types HO356.out BK359.out (by decide)) (fun _ hk => hk.2) (.int .i64 t353)) (fun _ hk => hk.2) (.slice Ao16 t354.length co16)) (fun _ h_ => h_.1))))); (case side2 => exact (Kd.R_reads' HO356.out).2.1); rintro e w17 ⟨rfl, hb⟩; refine ⟨_, rfl, ?_⟩; replace HO356 := Aside0.mk (Kd.R_below (rk_ ((Kd.R_mono (Kd.R_far (p := ⟨gb359, 1, none⟩) (Kd.R_far (p := ⟨gb359, 0, none⟩) (Kd.R_types HO356.out BK359.out (by decide)) (fun _ hk => hk.2) (.int .i64 t353)) (fun _ hk => hk.2) (.slice Ao16 t354.length co16)) (fun _ h_ => h_.1)))) hb); replace BK359 := Aside0.mk (blk_below (g := gb359) (o := .cells #[.int .i64 t353, .slice Ao16 t354.length co16] 26 (0, 0)) (by (with_reducible repeat (first | refine blk_drewN ?_ _ | refine blk_drew ?_ | refine blk_alloc ?_ _)); refine blk_put (cs := #[.int .i64 t353, .slice none 0 0]) ?_ 1 _ rfl; (with_reducible repeat (first | refine blk_drewN ?_ _ | refine blk_drew ?_ | refine blk_alloc ?_ _)); refine blk_put (cs := #[.int .i64 0, .slice none 0 0]) ?_ 0 _ rfl; (with_reducible repeat (first | refine blk_drewN ?_ _ | refine blk_drew ?_ | refine blk_alloc ?_ _)); exact BK359.out) hb); replace HB := Aside0.mk (below_step (r1_ HB.out GE359.out) hb); (try clear hb); (try clear hb2); (try clear hk); (try clear hi); have hcz18_0 : w17.cell? ⟨gb359, 0, none⟩ = some (.int .i64 t353) := (blk_cell BK359.out 0).trans rfl; have hcz18_1 : w17.cell? ⟨gb359, 1, none⟩ = some (.slice Ao16 t354.length co16) := (blk_cell BK359.out 1).trans rfl; have hfz18_0 := blk_frozen BK359.out 0; have hfz18_1 := blk_frozen BK359.out 1) | ((with_reducible refine gate_callee (f := 18) rfl ?_); refine goesL_ (some 45) rfl rfl Try.func18 (by kernel_rfl) rfl #[.agg #[.int .i64 t353, .slice Ao16 t354.length co16], .int .i64 t357, .int .i64 t358] rfl ag_ ?_; (with_reducible refine (spec_StateOf.calls k t353 (fun k_ => some k_ = (.slice Ao16 t354.length co16 : Value).ownBlock) _ _ t354 t357 t358 t362 t363 _ ?side1 A6.out).mono ?_); (case side1 => exact Kd.R_V (Kd.R_tight rfl (Kd.R_types (HO356.out) BK359.out (by decide)))); rintro e w19 ⟨rfl, hb⟩; refine ⟨_, rfl, ?_⟩; replace HO356 := Aside0.mk (Kd.R_below (rk_ HO356.out) hb); replace BK359 := Aside0.mk (blk_below (g := gb359) (o := .cells #[.int .i64 t353, .slice Ao16 t354.length co16] 26 (0, 0)) (r0_ BK359.out) hb); replace HB := Aside0.mk (below_step (r1_ HB.out GE359.out) hb); (try clear hb); (try clear hb2); (try clear hk); (try clear hi); have hcz20_0 : w19.cell? ⟨gb359, 0, none⟩ = some (.int .i64 t353) := (blk_cell BK359.out 0).trans rfl; have hcz20_1 : w19.cell? ⟨gb359, 1, none⟩ = some (.slice Ao16 t354.length co16) := (blk_cell BK359.out 1).trans rfl; have hfz20_0 := blk_frozen BK359.out 0; have hfz20_1 := blk_frozen BK359.out 1) | ((with_reducible refine gate_callee (f := 19) rfl ?_); refine goesL_ (some 50) rfl rfl Try.func19 (by kernel_rfl) rfl #[.agg #[.int .i64 t353, .slice Ao16 t354.length co16]] rfl ag_ ?_; (with_reducible refine (impl_ExpectedOf.calls k t353 _ _ t354 t364 t365 _ ?side1 ?side2 A7.out).mono ?_); (case side1 => exact r11_ HO356.out); (case side2 => exact (Kd.R_reads' HO356.out).2.1); rintro e w21 ⟨rfl, hb⟩; refine ⟨_, rfl, ?_⟩; replace HO356 := Aside0.mk (Kd.R_below (rk_ HO356.out) hb); replace BK359 := Aside0.mk (blk_below (g := gb359) (o := .cells #[.int .i64 t353, .slice Ao16 t354.length co16] 26 (0, 0)) (r0_ BK359.out) hb); replace HB := Aside0.mk (below_step (r1_ HB.out GE359.out) hb); (try clear hb); (try clear hb2); (try clear hk); (try clear hi); have hcz22_0 : w21.cell? ⟨gb359, 0, none⟩ = some (.int .i64 t353) := (blk_cell BK359.out 0).trans rfl; have hcz22_1 : w21.cell? ⟨gb359, 1, none⟩ = some (.slice Ao16 t354.length co16) := (blk_cell BK359.out 1).trans rfl; have hfz22_0 := blk_frozen BK359.out 0; have hfz22_1 := blk_frozen BK359.out 1) | ((with_reducible refine gate_callee (f := 20) rfl ?_); refine goesL_ (some 55) rfl rfl Try.func20 (by kernel_rfl) rfl #[.agg #[.int .i64 t353, .slice Ao16 t354.length co16]] rfl ag_ ?_; (with_reducible refine (spec_ExpectedOf.calls k t353 _ _ t354 t366 t367 _ ?side1 ?side2 A8.out).mono ?_); (case side1 => exact r11_ HO356.out); (case side2 => exact (Kd.R_reads' HO356.out).2.1); rintro e w23 ⟨rfl, hb⟩; refine ⟨_, rfl, ?_⟩; replace HO356 := Aside0.mk (Kd.R_below (rk_ HO356.out) hb); replace BK359 := Aside0.mk (blk_below (g := gb359) (o := .cells #[.int .i64 t353, .slice Ao16 t354.length co16] 26 (0, 0)) (r0_ BK359.out) hb); replace HB := Aside0.mk (below_step (r1_ HB.out GE359.out) hb); (try clear hb); (try clear hb2); (try clear hk); (try clear hi)) | ((with_reducible refine gate_callee (f := 21) rfl ?_); refine goesL_ (some 60) rfl rfl Try.func21 (by kernel_rfl) rfl #[.slice A0 l0.length c0] rfl ag_ ?_; (with_reducible refine (spec_DrawWorstPins.calls k _ _ l0 t368 t369 t370 _ ?side1 ?side2 A9.out).mono ?_); (case side1 => exact r8_ HR0.out HB.out); (case side2 => exact HC0.out); rintro e w24 ⟨v371, v373, rfl, ho0, ho1, hb⟩; refine ⟨_, rfl, ?_⟩; have HO372 := Aside0.mk (Kd.R_lower (Kd.R_newB (Kd.R_new' ho0 (Kd.R_lt (rk_ HO356.out))) (g := gb359) (o := .cells #[.int .i64 t353, .slice Ao16 t354.length co16] 26 (0, 0)) (r0_ BK359.out)) (below_size (r1_ HB.out GE359.out))); have HO374 := Aside0.mk (Kd.R_lower (Kd.R_new' ho1 (Kd.R_lt (rk_ HO356.out))) (below_size (r1_ HB.out GE359.out))); replace HO356 := Aside0.mk (Kd.R_elder' (rk_ HO356.out) (Kd.R_base ho1) hb); replace BK359 := Aside0.mk (blk_below (g := gb359) (o := .cells #[.int .i64 t353, .slice Ao16 t354.length co16] 26 (0, 0)) (r0_ BK359.out) hb); replace HB := Aside0.mk (below_step (r1_ HB.out GE359.out) hb); (try clear hb); (try clear hb2); (try clear hk); (try clear hi); (try clear ho0); (try clear ho1); obtain ⟨Ao25, co25, eo25⟩ := Kd.R_slice HO372.out; subst eo25; obtain ⟨Ao26, co26, eo26⟩ := Kd.R_slice HO374.out; subst eo26) | ((with_reducible refine gate_callee (f := 22) rfl ?_); refine goesL_ (some 68) rfl rfl Try.func22 (by kernel_rfl) rfl #[.slice Ao25 t368.length co25, .slice Ao26 t369.length co26, .int .i64 t370] rfl ag_ ?_; (with_reducible refine (impl_WorstPins.calls k _ _ t368 _ _ t369 t370 t375 t376 _ ?side1 ?side2 ?side3 ?side4 A10.out).mono ?_); (case side1 => exact r11_ HO372.out); (case side2 => exact (Kd.R_reads' HO372.out).2.1); (case side3 => exact r11_ HO374.out); (case side4 => exact (Kd.R_reads' HO374.out).2.1); rintro e w27 ⟨v377, rfl, ho0, hb⟩; refine ⟨_, rfl, ?_⟩; replace HO372 := Aside0.mk (Kd.R_elder' (rk_ HO372.out) (Kd.R_base ho0) hb); have HO378 := Aside0.mk (Kd.R_lower (Kd.R_new' (Kd.R_new' ho0 (Kd.R_lt (rk_ HO356.out))) (Kd.R_lt (rk_ HO374.out))) (below_size (r1_ HB.out GE359.out))); replace HO356 := Aside0.mk (Kd.R_elder' (rk_ HO356.out) (Kd.R_base ho0) hb); replace HO374 := Aside0.mk (Kd.R_elder' (rk_ HO374.out) (Kd.R_base ho0) hb); replace BK359 := Aside0.mk (blk_below (g := gb359) (o := .cells #[.int .i64 t353, .slice Ao16 t354.length co16] 26 (0, 0)) (r0_ BK359.out) hb); replace HB := Aside0.mk (below_step (r1_ HB.out GE359.out) hb); (try clear hb); (try clear hb2); (try clear hk); (try clear hi); (try clear ho0)) | ((with_reducible refine gate_callee (f := 23) rfl ?_); refine goesL_ (some 75) rfl rfl Try.func23 (by kernel_rfl) rfl #[.slice Ao25 t368.length co25, .slice Ao26 t369.length co26, .int .i64 t370] rfl ag_ ?_; (with_reducible refine (spec_WorstPins.calls k _ _ t368 _ _ t369 t370 t379 t380 _ ?side1 ?side2 ?side3 ?side4 A11.out).mono ?_); (case side1 => exact r11_ HO372.out); (case side2 => exact (Kd.R_reads' HO372.out).2.1); (case side3 => exact r11_ HO374.out); (case side4 => exact (Kd.R_reads' HO374.out).2.1); rintro e w28 ⟨v381, rfl, ho0, hb⟩; refine ⟨_, rfl, ?_⟩; replace HO372 := Aside0.mk (Kd.R_elder' (rk_ HO372.out) (Kd.R_base ho0) hb); have HO382 := Aside0.mk (Kd.R_lower (Kd.R_new' (Kd.R_new' (Kd.R_new' ho0 (Kd.R_lt (rk_ HO356.out))) (Kd.R_lt (rk_ HO374.out))) (Kd.R_lt (rk_ HO378.out))) (below_size (r1_ HB.out GE359.out))); replace HO356 := Aside0.mk (Kd.R_elder' (rk_ HO356.out) (Kd.R_base ho0) hb); replace HO374 := Aside0.mk (Kd.R_elder' (rk_ HO374.out) (Kd.R_base ho0) hb); replace HO378 := Aside0.mk (Kd.R_elder' (rk_ HO378.out) (Kd.R_base ho0) hb); replace BK359 := Aside0.mk (blk_below (g := gb359) (o := .cells #[.int .i64 t353, .slice Ao16 t354.length co16] 26 (0, 0)) (r0_ BK359.out) hb); replace HB := Aside0.mk (below_step (r1_ HB.out GE359.out) hb); (try clear hb); (try clear hb2); (try clear hk); (try clear hi); (try clear ho0)))
   (try simp only [Act.put, List.setIfInBounds_toArray, List.set_cons_zero, List.set_cons_succ])
   go_cut [113] (fun v113 wc => ∃ (kq : Nat) (x113_11 : Bool), v113 = .bool x113_11 ∧ Aside0 (laws_FnCircuits.j0 kq t360 t361 t364 t365 t368 t369 t370 t375 t376 x113_11 t353 t354 = some r) ∧ Aside0 (kq ≤ k) ∧ Aside0 (Kd.R k26 26 wc w.heap.size (fun k_ => some k_ ≠ ((.slice Ao26 t369.length co26) : Value).ownBlock ∧ some k_ ≠ (v377 : Value).ownBlock ∧ some k_ ≠ ((.slice Ao16 t354.length co16) : Value).ownBlock ∧ k_ ≠ gb359) (.slice Ao25 t368.length co25) t368) ∧ Aside0 (Kd.R (Kd.int .i64) 2 wc w.heap.size (fun k_ => some k_ ≠ (v377 : Value).ownBlock ∧ some k_ ≠ ((.slice Ao16 t354.length co16) : Value).ownBlock) (.slice Ao26 t369.length co26) t369) ∧ Aside0 (Kd.R (Kd.int .i64) 2 wc w.heap.size (fun k_ => some k_ ≠ ((.slice Ao26 t369.length co26) : Value).ownBlock ∧ some k_ ≠ ((.slice Ao16 t354.length co16) : Value).ownBlock) v377 t375) ∧ Aside0 (Kd.R (Kd.int .i64) 2 wc w.heap.size (fun k_ => some k_ ≠ ((.slice Ao26 t369.length co26) : Value).ownBlock ∧ some k_ ≠ (v377 : Value).ownBlock) (.slice Ao16 t354.length co16) t354) ∧ Aside0 (wc.heap[gb359]? = some (.cells #[.int .i64 t353, (.slice Ao16 t354.length co16)] 26 (0, 0))) ∧ Aside0 (Below w.heap.size w wc))
   case first =>
    as_aux_lemma =>
     have H := HC12.out
     clear HC12
     by_cases c29 : t361 = t363
     case neg =>
      rw [if_neg c29] at H
      have c29b0 : (t361 == t363) = false := beq_eq_false_iff_ne.mpr c29
      have c29b1 : (t361 != t363) = true := bne_iff_ne.mpr c29
      (first | rw [c29b0] | (simp only [i64_w, i32_w]; rw [c29b0]) | skip)
      exact absurd ((laws_FnCircuits.j0_true H).trans hT) (by decide)
     rw [if_pos c29] at H
     have c29b0 : (t361 == t363) = true := beq_iff_eq.mpr c29
     have c29b1 : (t361 != t363) = false := bne_eq_false_iff_eq.mpr c29
     clear c29
     (first | rw [c29b0] | (simp only [i64_w, i32_w]; rw [c29b0]) | skip)
     by_cases c30 : t360 = t362
     case neg =>
      rw [if_neg c30] at H
      have c30b0 : (t360 == t362) = false := beq_eq_false_iff_ne.mpr c30
      have c30b1 : (t360 != t362) = true := bne_iff_ne.mpr c30
      exact absurd ((laws_FnCircuits.j0_true H).trans hT) (by decide)
     rw [if_pos c30] at H
     have c30b0 : (t360 == t362) = true := beq_iff_eq.mpr c30
     have c30b1 : (t360 != t362) = false := bne_eq_false_iff_eq.mpr c30
     clear c30
     by_cases c31 : t365 = t367
     case neg =>
      rw [if_neg c31] at H
      have c31b0 : (t365 == t367) = false := beq_eq_false_iff_ne.mpr c31
      have c31b1 : (t365 != t367) = true := bne_iff_ne.mpr c31
      exact absurd ((laws_FnCircuits.j0_true H).trans hT) (by decide)
     rw [if_pos c31] at H
     have c31b0 : (t365 == t367) = true := beq_iff_eq.mpr c31
     have c31b1 : (t365 != t367) = false := bne_eq_false_iff_eq.mpr c31
     clear c31
     by_cases c32 : t364 = t366
     case neg =>
      rw [if_neg c32] at H
      have c32b0 : (t364 == t366) = false := beq_eq_false_iff_ne.mpr c32
      have c32b1 : (t364 != t366) = true := bne_iff_ne.mpr c32
      exact absurd ((laws_FnCircuits.j0_true H).trans hT) (by decide)
     rw [if_pos c32] at H
     have c32b0 : (t364 == t366) = true := beq_iff_eq.mpr c32
     have c32b1 : (t364 != t366) = false := bne_eq_false_iff_eq.mpr c32
     clear c32
     by_cases c33 : t376 = t380
     case neg =>
      rw [if_neg c33] at H
      have c33b0 : (t376 == t380) = false := beq_eq_false_iff_ne.mpr c33
      have c33b1 : (t376 != t380) = true := bne_iff_ne.mpr c33
      exact absurd ((laws_FnCircuits.j0_true H).trans hT) (by decide)
     rw [if_pos c33] at H
     have c33b0 : (t376 == t380) = true := beq_iff_eq.mpr c33
     have c33b1 : (t376 != t380) = false := bne_eq_false_iff_eq.mpr c33
     clear c33
     replace H := Option.bind_eq_some_iff.mp H
     obtain ⟨t383, A340, H⟩ := H
     replace H : (if t383 = true then ((impl_IsCircuit.f k t353 t354).bind fun t384 => (laws_FnCircuits.j0 k t360 t361 t364 t365 t368 t369 t370 t375 t376 (t384 != (t367 == 0)) t353 t354)) else (laws_FnCircuits.j0 k t360 t361 t364 t365 t368 t369 t370 t375 t376 true t353 t354)) = some r := H
     have A34 := Aside0.mk A340
     clear A340
     by_cases c35 : t383 = true
     ·subst c35
      replace H : ((impl_IsCircuit.f k t353 t354).bind fun t384 => (laws_FnCircuits.j0 k t360 t361 t364 t365 t368 t369 t370 t375 t376 (t384 != (t367 == 0)) t353 t354)) = some r := by rw [if_pos rfl] at H; exact H
      replace H := Option.bind_eq_some_iff.mp H
      obtain ⟨t384, A360, H⟩ := H
      replace H : (laws_FnCircuits.j0 k t360 t361 t364 t365 t368 t369 t370 t375 t376 (t384 != (t367 == 0)) t353 t354) = some r := H
      have A36 := Aside0.mk A360
      clear A360
      have H' := Aside0.mk H
      clear H
      obtain ⟨Ao37, co37, eo37⟩ := Kd.R_slice HO378.out
      subst eo37
      obtain ⟨Ao38, co38, eo38⟩ := Kd.R_slice HO382.out
      subst eo38
      go_wp2_with (first | (go_at_call 24; (with_reducible refine (laws_likeInts.calls k _ _ t375 _ _ t379 true _ ?side1 ?side2 ?side3 ?side4 A34.out).mono ?_); (case side1 => exact r11_ HO378.out); (case side2 => exact (Kd.R_reads' HO378.out).2.1); (case side3 => exact r11_ HO382.out); (case side4 => exact (Kd.R_reads' HO382.out).2.1); rintro e w' ⟨rfl, ⟨nd, rfl⟩⟩; have hcz39_0 : w28.cell? ⟨gb359, 0, none⟩ = some (.int .i64 t353) := (blk_cell BK359.out 0).trans rfl; have hcz39_1 : w28.cell? ⟨gb359, 1, none⟩ = some (.slice Ao16 t354.length co16) := (blk_cell BK359.out 1).trans rfl; have hfz39_0 := blk_frozen BK359.out 0; have hfz39_1 := blk_frozen BK359.out 1) | (go_at_call 25; (with_reducible refine (impl_IsCircuit.calls k t353 _ _ t354 t384 _ ?side1 ?side2 A36.out).mono ?_); (case side1 => exact r11_ HO356.out); (case side2 => exact (Kd.R_reads' HO356.out).2.1); rintro e w40 ⟨rfl, hb⟩; replace HO356 := Aside0.mk (Kd.R_below (rk_ HO356.out) hb); replace HO372 := Aside0.mk (Kd.R_below (rk_ HO372.out) hb); replace HO374 := Aside0.mk (Kd.R_below (rk_ HO374.out) hb); replace HO378 := Aside0.mk (Kd.R_below (rk_ HO378.out) hb); replace HO382 := Aside0.mk (Kd.R_below (rk_ HO382.out) hb); replace BK359 := Aside0.mk (blk_below (g := gb359) (o := .cells #[.int .i64 t353, .slice Ao16 t354.length co16] 26 (0, 0)) (r0_ BK359.out) hb); replace HB := Aside0.mk (below_step (r1_ HB.out GE359.out) hb); (try clear hb); (try clear hb2); (try clear hk); (try clear hi)))
      go_meet
      case rel => exact ⟨_, ((t384 != (t367 == 0))), (by first | rfl | (simp; done) | (simp [*]; done)), H', ⟨by first | omega | exact Nat.le_refl _⟩, ⟨rk_ (Kd.R_mono HO372.out (fun _ hk => ⟨hk.1.1.1.1, ⟨hk.1.2, ⟨hk.1.1.1.2, hk.1.1.2⟩⟩⟩))⟩, ⟨rk_ (Kd.R_mono HO374.out (fun _ hk => ⟨hk.1.2, hk.1.1.2⟩))⟩, ⟨rk_ (Kd.R_mono HO378.out (fun _ hk => ⟨hk.1.2, hk.1.1.2⟩))⟩, ⟨rk_ (Kd.R_mono HO356.out (fun _ hk => ⟨hk.1.1.2, hk.1.2⟩))⟩, ⟨r0_ BK359.out⟩, ⟨r1_ HB.out GE359.out⟩⟩
     ·replace c35 := Bool.eq_false_iff.mpr c35
      subst c35
      replace H : (laws_FnCircuits.j0 k t360 t361 t364 t365 t368 t369 t370 t375 t376 true t353 t354) = some r := by rw [if_neg (show ¬ (false = true) by decide)] at H; exact H
      exact absurd ((laws_FnCircuits.j0_true H).trans hT) (by decide)
   case rest =>
    as_aux_lemma =>
     clear HC12
     try clear c1
     try clear c2
     try clear p2
     try clear c3
     try clear c15
     try clear c16
     try clear c17
     try clear c18
     try clear c19
     try clear c20
     try clear c21
     try clear c22
     try clear c23
     try clear c29
     try clear c29b0
     try clear c29b1
     try clear c30
     try clear c30b0
     try clear c30b1
     try clear c31
     try clear c31b0
     try clear c31b1
     try clear c32
     try clear c32b0
     try clear c32b1
     try clear c33
     try clear c33b0
     try clear c33b1
     try clear c35
     try clear hcz15_0
     try clear hcz15_1
     try clear hcz18_0
     try clear hcz18_1
     try clear hcz20_0
     try clear hcz20_1
     try clear hcz22_0
     try clear hcz22_1
     try clear hcz39_0
     try clear hcz39_1
     try clear hfz15_0
     try clear hfz15_1
     try clear hfz18_0
     try clear hfz18_1
     try clear hfz20_0
     try clear hfz20_1
     try clear hfz22_0
     try clear hfz22_1
     try clear hfz39_0
     try clear hfz39_1
     obtain ⟨kq, x113_11, rfl, HA, HJ11, HO_14, HO_15, HO_17, HO_360001, BK359, HB⟩ := hcut
     cases kq with
     | zero => exact absurd HA.out (by simp [laws_FnCircuits.j0])
     | succ kj11 =>
      have H := HA.out
      clear HA
      simp only [laws_FnCircuits.j0] at H
      by_cases c43 : x113_11 = true
      case pos =>
       subst c43
       replace H : (some false) = some r := by rw [if_pos rfl] at H; exact H
       exact absurd ((Option.some.inj H).trans hT) (by decide)
      replace c43 := Bool.eq_false_iff.mpr c43
      subst c43
      replace H : (if t365 = 0 then ((impl_StateOf.f kj11 t353 t354 t364 0).bind fun bt385 => (if bt385.2 = 0 then (if bt385.1 = 0 then (laws_FnCircuits.j1 kj11 t360 t361 t368 t369 t370 t375 t376) else (some false)) else (some false))) else (laws_FnCircuits.j1 kj11 t360 t361 t368 t369 t370 t375 t376)) = some r := by rw [if_neg (show ¬ (false = true) by decide)] at H; exact H
      have HC44 := Aside0.mk H
      clear H
      go_upto_if 115 with (fail)
      go_cut [] (fun wc => ∃ (kq : Nat), Aside0 (laws_FnCircuits.j1 kq t360 t361 t368 t369 t370 t375 t376 = some r) ∧ Aside0 (kq ≤ kj11) ∧ Aside0 (Kd.R k26 26 wc w.heap.size (fun k_ => some k_ ≠ ((.slice Ao26 t369.length co26) : Value).ownBlock ∧ some k_ ≠ (v377 : Value).ownBlock ∧ some k_ ≠ ((.slice Ao16 t354.length co16) : Value).ownBlock ∧ k_ ≠ gb359) (.slice Ao25 t368.length co25) t368) ∧ Aside0 (Kd.R (Kd.int .i64) 2 wc w.heap.size (fun k_ => some k_ ≠ (v377 : Value).ownBlock ∧ some k_ ≠ ((.slice Ao16 t354.length co16) : Value).ownBlock) (.slice Ao26 t369.length co26) t369) ∧ Aside0 (Kd.R (Kd.int .i64) 2 wc w.heap.size (fun k_ => some k_ ≠ ((.slice Ao26 t369.length co26) : Value).ownBlock ∧ some k_ ≠ ((.slice Ao16 t354.length co16) : Value).ownBlock) v377 t375) ∧ Aside0 (Kd.R (Kd.int .i64) 2 wc w.heap.size (fun k_ => some k_ ≠ ((.slice Ao26 t369.length co26) : Value).ownBlock ∧ some k_ ≠ (v377 : Value).ownBlock) (.slice Ao16 t354.length co16) t354) ∧ Aside0 (wc.heap[gb359]? = some (.cells #[.int .i64 t353, (.slice Ao16 t354.length co16)] 26 (0, 0))) ∧ Aside0 (Below w.heap.size w wc))
      case first =>
       as_aux_lemma =>
        have H := HC44.out
        clear HC44
        by_cases c45 : t365 = 0
        ·rw [if_pos c45] at H
         have c45b0 : (t365 == 0) = true := beq_iff_eq.mpr c45
         have c45b1 : (t365 != 0) = false := bne_eq_false_iff_eq.mpr c45
         clear c45
         (first | rw [c45b0] | (simp only [i64_w, i32_w]; rw [c45b0]) | skip)
         replace H := Option.bind_eq_some_iff.mp H
         obtain ⟨⟨t385, t386⟩, A460, H⟩ := H
         replace H : (if t386 = 0 then (if t385 = 0 then (laws_FnCircuits.j1 kj11 t360 t361 t368 t369 t370 t375 t376) else (some false)) else (some false)) = some r := H
         have A46 := Aside0.mk A460
         clear A460
         by_cases c47 : t386 = 0
         case neg =>
          rw [if_neg c47] at H
          have c47b0 : (t386 == 0) = false := beq_eq_false_iff_ne.mpr c47
          have c47b1 : (t386 != 0) = true := bne_iff_ne.mpr c47
          exact absurd ((Option.some.inj H).trans hT) (by decide)
         rw [if_pos c47] at H
         have c47b0 : (t386 == 0) = true := beq_iff_eq.mpr c47
         have c47b1 : (t386 != 0) = false := bne_eq_false_iff_eq.mpr c47
         clear c47
         by_cases c48 : t385 = 0
         case neg =>
          rw [if_neg c48] at H
          have c48b0 : (t385 == 0) = false := beq_eq_false_iff_ne.mpr c48
          have c48b1 : (t385 != 0) = true := bne_iff_ne.mpr c48
          exact absurd ((Option.some.inj H).trans hT) (by decide)
         rw [if_pos c48] at H
         have c48b0 : (t385 == 0) = true := beq_iff_eq.mpr c48
         have c48b1 : (t385 != 0) = false := bne_eq_false_iff_eq.mpr c48
         clear c48
         have H' := Aside0.mk H
         clear H
         have hcz49_0 : wc.cell? ⟨gb359, 0, none⟩ = some (.int .i64 t353) := (blk_cell BK359.out 0).trans rfl
         have hcz49_1 : wc.cell? ⟨gb359, 1, none⟩ = some (.slice Ao16 t354.length co16) := (blk_cell BK359.out 1).trans rfl
         have hfz49_0 := blk_frozen BK359.out 0
         have hfz49_1 := blk_frozen BK359.out 1
         go_wp2_with (first | ((with_reducible refine gate_callee (f := 17) rfl ?_); refine goesL_ (some 119) rfl rfl Try.func17 (by kernel_rfl) rfl #[.agg #[.int .i64 t353, .slice Ao16 t354.length co16], .int .i64 t364, .int .i64 0] rfl ag_ ?_; (with_reducible refine (impl_StateOf.calls kj11 t353 _ _ t354 t364 0 t385 t386 _ ?side1 ?side2 A46.out).mono ?_); (case side1 => exact r11_ HO_360001.out); (case side2 => exact (Kd.R_reads' HO_360001.out).2.1); rintro e w50 ⟨rfl, hb⟩; refine ⟨_, rfl, ?_⟩; replace HO_14 := Aside0.mk (Kd.R_below (rk_ HO_14.out) hb); replace HO_15 := Aside0.mk (Kd.R_below (rk_ HO_15.out) hb); replace HO_17 := Aside0.mk (Kd.R_below (rk_ HO_17.out) hb); replace HO_360001 := Aside0.mk (Kd.R_below (rk_ HO_360001.out) hb); replace BK359 := Aside0.mk (blk_below (g := gb359) (o := .cells #[.int .i64 t353, .slice Ao16 t354.length co16] 26 (0, 0)) (r0_ BK359.out) hb); replace HB := Aside0.mk (below_step (r1_ HB.out GE359.out) hb); (try clear hb); (try clear hb2); (try clear hk); (try clear hi)))
         go_meet
         case rel => exact ⟨_, H', ⟨by have := HJ11.out; first | omega | exact Nat.le_refl _⟩, ⟨rk_ HO_14.out⟩, ⟨rk_ HO_15.out⟩, ⟨rk_ HO_17.out⟩, ⟨rk_ HO_360001.out⟩, ⟨r0_ BK359.out⟩, ⟨r1_ HB.out GE359.out⟩⟩
        ·rw [if_neg c45] at H
         have c45b0 : (t365 == 0) = false := beq_eq_false_iff_ne.mpr c45
         have c45b1 : (t365 != 0) = true := bne_iff_ne.mpr c45
         (first | rw [c45b0] | (simp only [i64_w, i32_w]; rw [c45b0]) | skip)
         have H' := Aside0.mk H
         clear H
         go_wp2
         go_meet
         case rel => exact ⟨_, H', ⟨by have := HJ11.out; first | omega | exact Nat.le_refl _⟩, ⟨rk_ HO_14.out⟩, ⟨rk_ HO_15.out⟩, ⟨rk_ HO_17.out⟩, ⟨rk_ HO_360001.out⟩, ⟨r0_ BK359.out⟩, ⟨r1_ HB.out GE359.out⟩⟩
      case rest =>
       as_aux_lemma =>
        clear HC44
        try clear c1
        try clear c2
        try clear p2
        try clear c3
        try clear c4
        try clear c15
        try clear c16
        try clear c17
        try clear c18
        try clear c19
        try clear c20
        try clear c21
        try clear c22
        try clear c23
        try clear c29
        try clear c29b0
        try clear c29b1
        try clear c30
        try clear c30b0
        try clear c30b1
        try clear c31
        try clear c31b0
        try clear c31b1
        try clear c32
        try clear c32b0
        try clear c32b1
        try clear c33
        try clear c33b0
        try clear c33b1
        try clear c35
        try clear c43
        try clear c45
        try clear c45b0
        try clear c45b1
        try clear c47
        try clear c47b0
        try clear c47b1
        try clear c48
        try clear c48b0
        try clear c48b1
        try clear hcz15_0
        try clear hcz15_1
        try clear hcz18_0
        try clear hcz18_1
        try clear hcz20_0
        try clear hcz20_1
        try clear hcz22_0
        try clear hcz22_1
        try clear hcz39_0
        try clear hcz39_1
        try clear hcz49_0
        try clear hcz49_1
        try clear hcz51_0
        try clear hcz51_1
        try clear hcz53_0
        try clear hcz53_1
        try clear hfz15_0
        try clear hfz15_1
        try clear hfz18_0
        try clear hfz18_1
        try clear hfz20_0
        try clear hfz20_1
        try clear hfz22_0
        try clear hfz22_1
        try clear hfz39_0
        try clear hfz39_1
        try clear hfz49_0
        try clear hfz49_1
        try clear hfz51_0
        try clear hfz51_1
        try clear hfz53_0
        try clear hfz53_1
        try clear p2
        obtain ⟨kq, HA, HJ43, HO_14, HO_15, HO_17, HO_360001, BK359, HB⟩ := hcut
        cases kq with
        | zero => exact absurd HA.out (by simp [laws_FnCircuits.j1])
        | succ kj43 =>
         have H := HA.out
         clear HA
         simp only [laws_FnCircuits.j1] at H
         have H' := Aside0.mk H
         clear H
         go_wp2
         go_loopg [23] kj43 (fun kq v23 w' => ∃ (x23_3 : Int), v23 = .int .i64 x23_3 ∧ Aside0 (laws_FnCircuits.l0 kq t360 t361 t368 t369 t370 t375 t376 x23_3 = some r) ∧ Aside0 (kq ≤ kj43) ∧ Aside0 (Kd.R k26 26 w' w.heap.size (fun k_ => some k_ ≠ ((.slice Ao26 t369.length co26) : Value).ownBlock ∧ some k_ ≠ (v377 : Value).ownBlock ∧ some k_ ≠ ((.slice Ao16 t354.length co16) : Value).ownBlock ∧ k_ ≠ gb359) (.slice Ao25 t368.length co25) t368) ∧ Aside0 (Kd.R (Kd.int .i64) 2 w' w.heap.size (fun k_ => some k_ ≠ (v377 : Value).ownBlock ∧ some k_ ≠ ((.slice Ao16 t354.length co16) : Value).ownBlock) (.slice Ao26 t369.length co26) t369) ∧ Aside0 (Kd.R (Kd.int .i64) 2 w' w.heap.size (fun k_ => some k_ ≠ ((.slice Ao26 t369.length co26) : Value).ownBlock ∧ some k_ ≠ ((.slice Ao16 t354.length co16) : Value).ownBlock) v377 t375) ∧ Aside0 (Kd.R (Kd.int .i64) 2 w' w.heap.size (fun k_ => some k_ ≠ ((.slice Ao26 t369.length co26) : Value).ownBlock ∧ some k_ ≠ (v377 : Value).ownBlock) (.slice Ao16 t354.length co16) t354) ∧ Aside0 (w'.heap[gb359]? = some (.cells #[.int .i64 t353, (.slice Ao16 t354.length co16)] 26 (0, 0))) ∧ Aside0 (Below w.heap.size w w'))
         case atStart => exact ⟨(0), (by first | rfl | (simp; done) | (simp [*]; done)), H', ⟨Nat.le_refl _⟩, ⟨rk_ HO_14.out⟩, ⟨rk_ HO_15.out⟩, ⟨rk_ HO_17.out⟩, ⟨rk_ HO_360001.out⟩, ⟨r0_ BK359.out⟩, ⟨r1_ HB.out GE359.out⟩⟩
         case round =>
          as_aux_lemma =>
           clear H'
           try clear c1
           try clear c2
           try clear p2
           try clear c3
           try clear c4
           try clear c15
           try clear c16
           try clear c17
           try clear c18
           try clear c19
           try clear c20
           try clear c21
           try clear c22
           try clear c23
           try clear c29
           try clear c29b0
           try clear c29b1
           try clear c30
           try clear c30b0
           try clear c30b1
           try clear c31
           try clear c31b0
           try clear c31b1
           try clear c32
           try clear c32b0
           try clear c32b1
           try clear c33
           try clear c33b0
           try clear c33b1
           try clear c35
           try clear c43
           try clear c45
           try clear c45b0
           try clear c45b1
           try clear c47
           try clear c47b0
           try clear c47b1
           try clear c48
           try clear c48b0
           try clear c48b1
           try clear hcz15_0
           try clear hcz15_1
           try clear hcz18_0
           try clear hcz18_1
           try clear hcz20_0
           try clear hcz20_1
           try clear hcz22_0
           try clear hcz22_1
           try clear hcz39_0
           try clear hcz39_1
           try clear hcz49_0
           try clear hcz49_1
           try clear hcz51_0
           try clear hcz51_1
           try clear hcz53_0
           try clear hcz53_1
           try clear hfz15_0
           try clear hfz15_1
           try clear hfz18_0
           try clear hfz18_1
           try clear hfz20_0
           try clear hfz20_1
           try clear hfz22_0
           try clear hfz22_1
           try clear hfz39_0
           try clear hfz39_1
           try clear hfz49_0
           try clear hfz49_1
           try clear hfz51_0
           try clear hfz51_1
           try clear hfz53_0
           try clear hfz53_1
           try clear p2
           obtain ⟨x23_3, rfl, HA, HK3, HO_14, HO_15, HO_17, HO_360001, BK359, HB⟩ := hrel
           cases gk with
           | zero => exact absurd HA.out (by simp [laws_FnCircuits.l0])
           | succ k3 =>
            have H := HA.out
            clear HA
            simp only [laws_FnCircuits.l0] at H
            have HC55 := Aside0.mk H
            clear H
            go_upto_region 18 with (fail)
            go_cut [135] (fun v135 wc => ∃ (kq : Nat) (x135_54 : Bool), v135 = .bool x135_54 ∧ Aside0 (laws_FnCircuits.j3 kq t360 t361 t368 t369 t370 t375 t376 x23_3 x135_54 = some r) ∧ Aside0 (kq ≤ k3) ∧ Aside0 (Kd.R k26 26 wc w.heap.size (fun k_ => some k_ ≠ ((.slice Ao26 t369.length co26) : Value).ownBlock ∧ some k_ ≠ (v377 : Value).ownBlock ∧ some k_ ≠ ((.slice Ao16 t354.length co16) : Value).ownBlock ∧ k_ ≠ gb359) (.slice Ao25 t368.length co25) t368) ∧ Aside0 (Kd.R (Kd.int .i64) 2 wc w.heap.size (fun k_ => some k_ ≠ (v377 : Value).ownBlock ∧ some k_ ≠ ((.slice Ao16 t354.length co16) : Value).ownBlock) (.slice Ao26 t369.length co26) t369) ∧ Aside0 (Kd.R (Kd.int .i64) 2 wc w.heap.size (fun k_ => some k_ ≠ ((.slice Ao26 t369.length co26) : Value).ownBlock ∧ some k_ ≠ ((.slice Ao16 t354.length co16) : Value).ownBlock) v377 t375) ∧ Aside0 (Kd.R (Kd.int .i64) 2 wc w.heap.size (fun k_ => some k_ ≠ ((.slice Ao26 t369.length co26) : Value).ownBlock ∧ some k_ ≠ (v377 : Value).ownBlock) (.slice Ao16 t354.length co16) t354) ∧ Aside0 (wc.heap[gb359]? = some (.cells #[.int .i64 t353, (.slice Ao16 t354.length co16)] 26 (0, 0))) ∧ Aside0 (Below w.heap.size w wc))
            case first =>
             have H := HC55.out
             clear HC55
             by_cases c56 : t376 = 0
             ·rw [if_pos c56] at H
              have c56b0 : (t376 == 0) = true := beq_iff_eq.mpr c56
              have c56b1 : (t376 != 0) = false := bne_eq_false_iff_eq.mpr c56
              clear c56
              (first | rw [c56b0] | (simp only [i64_w, i32_w]; rw [c56b0]) | skip)
              have H' := Aside0.mk H
              clear H
              go_wp2
              go_meet
              case rel => exact ⟨_, (decide (x23_3 < (t368.length : Int))), (by first | rfl | (simp; done) | (simp [*]; done)), H', ⟨by have := HJ11.out; have := HJ43.out; have := HK3.out; first | omega | exact Nat.le_refl _⟩, ⟨rk_ HO_14.out⟩, ⟨rk_ HO_15.out⟩, ⟨rk_ HO_17.out⟩, ⟨rk_ HO_360001.out⟩, ⟨r0_ BK359.out⟩, ⟨r1_ HB.out GE359.out⟩⟩
             ·rw [if_neg c56] at H
              have c56b0 : (t376 == 0) = false := beq_eq_false_iff_ne.mpr c56
              have c56b1 : (t376 != 0) = true := bne_iff_ne.mpr c56
              (first | rw [c56b0] | (simp only [i64_w, i32_w]; rw [c56b0]) | skip)
              have H' := Aside0.mk H
              clear H
              go_wp2
              go_meet
              case rel => exact ⟨_, (false), (by first | rfl | (simp; done) | (simp [*]; done)), H', ⟨by have := HJ11.out; have := HJ43.out; have := HK3.out; first | omega | exact Nat.le_refl _⟩, ⟨rk_ HO_14.out⟩, ⟨rk_ HO_15.out⟩, ⟨rk_ HO_17.out⟩, ⟨rk_ HO_360001.out⟩, ⟨r0_ BK359.out⟩, ⟨r1_ HB.out GE359.out⟩⟩
            case rest =>
             as_aux_lemma =>
              clear HC55
              try clear c1
              try clear c2
              try clear p2
              try clear c3
              try clear c4
              try clear c5
              try clear c15
              try clear c16
              try clear c17
              try clear c18
              try clear c19
              try clear c20
              try clear c21
              try clear c22
              try clear c23
              try clear c29
              try clear c29b0
              try clear c29b1
              try clear c30
              try clear c30b0
              try clear c30b1
              try clear c31
              try clear c31b0
              try clear c31b1
              try clear c32
              try clear c32b0
              try clear c32b1
              try clear c33
              try clear c33b0
              try clear c33b1
              try clear c35
              try clear c43
              try clear c45
              try clear c45b0
              try clear c45b1
              try clear c47
              try clear c47b0
              try clear c47b1
              try clear c48
              try clear c48b0
              try clear c48b1
              try clear c56
              try clear c56b0
              try clear c56b1
              try clear hcz15_0
              try clear hcz15_1
              try clear hcz18_0
              try clear hcz18_1
              try clear hcz20_0
              try clear hcz20_1
              try clear hcz22_0
              try clear hcz22_1
              try clear hcz39_0
              try clear hcz39_1
              try clear hcz49_0
              try clear hcz49_1
              try clear hcz51_0
              try clear hcz51_1
              try clear hcz53_0
              try clear hcz53_1
              try clear hfz15_0
              try clear hfz15_1
              try clear hfz18_0
              try clear hfz18_1
              try clear hfz20_0
              try clear hfz20_1
              try clear hfz22_0
              try clear hfz22_1
              try clear hfz39_0
              try clear hfz39_1
              try clear hfz49_0
              try clear hfz49_1
              try clear hfz51_0
              try clear hfz51_1
              try clear hfz53_0
              try clear hfz53_1
              try clear p2
              obtain ⟨kq, x135_54, rfl, HA, HJ54, HO_14, HO_15, HO_17, HO_360001, BK359, HB⟩ := hcut
              cases kq with
              | zero => exact absurd HA.out (by simp [laws_FnCircuits.j3])
              | succ kj54 =>
               have H := HA.out
               clear HA
               simp only [laws_FnCircuits.j3] at H
               by_cases c57 : x135_54 = true
               ·as_aux_lemma =>
                 subst c57
                 replace H : (if 0 ≤ x23_3 then (if x23_3 < (t368.length : Int) then (if x23_3 < (t369.length : Int) then ((impl_StateOf.f kj54 ((rd_T26 t368 x23_3).f0) ((rd_T26 t368 x23_3).f1) (rd t369 x23_3) t370).bind fun bt389 => (if bt389.2 = 0 then ((laws_hasInt.f kj54 t375 x23_3).bind fun t391 => (if (t391 != (bt389.1 != 0)) = true then (some false) else (laws_FnCircuits.l0 kj54 t360 t361 t368 t369 t370 t375 t376 (wrap64 (x23_3 + 1))))) else (some false))) else (none)) else (none)) else (none)) = some r := by rw [if_pos rfl] at H; exact H
                 by_cases c58 : 0 ≤ x23_3
                 case neg =>
                  rw [if_neg c58] at H
                  exact absurd H (by simp)
                 rw [if_pos c58] at H
                 have c58b0 : decide (0 ≤ x23_3) = true := decide_eq_true c58
                 clear c58
                 by_cases c59 : x23_3 < (t368.length : Int)
                 case neg =>
                  rw [if_neg c59] at H
                  exact absurd H (by simp)
                 rw [if_pos c59] at H
                 have c59b0 : decide (x23_3 < (t368.length : Int)) = true := decide_eq_true c59
                 clear c59
                 by_cases c60 : x23_3 < (t369.length : Int)
                 case neg =>
                  rw [if_neg c60] at H
                  exact absurd H (by simp)
                 rw [if_pos c60] at H
                 have c60b0 : decide (x23_3 < (t369.length : Int)) = true := decide_eq_true c60
                 clear c60
                 replace H := Option.bind_eq_some_iff.mp H
                 obtain ⟨⟨t389, t390⟩, A610, H⟩ := H
                 replace H : (if t390 = 0 then ((laws_hasInt.f kj54 t375 x23_3).bind fun t391 => (if (t391 != (t389 != 0)) = true then (some false) else (laws_FnCircuits.l0 kj54 t360 t361 t368 t369 t370 t375 t376 (wrap64 (x23_3 + 1))))) else (some false)) = some r := H
                 have A61 := Aside0.mk A610
                 clear A610
                 by_cases c62 : t390 = 0
                 case neg =>
                  rw [if_neg c62] at H
                  have c62b0 : (t390 == 0) = false := beq_eq_false_iff_ne.mpr c62
                  have c62b1 : (t390 != 0) = true := bne_iff_ne.mpr c62
                  exact absurd ((Option.some.inj H).trans hT) (by decide)
                 rw [if_pos c62] at H
                 have c62b0 : (t390 == 0) = true := beq_iff_eq.mpr c62
                 have c62b1 : (t390 != 0) = false := bne_eq_false_iff_eq.mpr c62
                 clear c62
                 replace H := Option.bind_eq_some_iff.mp H
                 obtain ⟨t391, A630, H⟩ := H
                 replace H : (if (t391 != (t389 != 0)) = true then (some false) else (laws_FnCircuits.l0 kj54 t360 t361 t368 t369 t370 t375 t376 (wrap64 (x23_3 + 1)))) = some r := H
                 have A63 := Aside0.mk A630
                 clear A630
                 by_cases c64 : (t391 != (t389 != 0)) = true
                 ·rw [if_pos c64] at H
                  have c64b0 : (t391 != (t389 != 0)) = true := c64
                  (try (have c64b1 : decide (t391 = (t389 != 0)) = false := by simpa using c64))
                  (try (have c64b2 : (t391 == (t389 != 0)) = false := by simpa using c64))
                  (try (have c64b3 : ¬ (t391 = (t389 != 0)) := by simpa using c64))
                  clear c64
                  exact absurd ((Option.some.inj H).trans hT) (by decide)
                 ·rw [if_neg c64] at H
                  have c64b0 : (t391 != (t389 != 0)) = false := by simpa using c64
                  (try (have c64b1 : decide (t391 = (t389 != 0)) = true := by simpa using c64))
                  (try (have c64b2 : (t391 == (t389 != 0)) = true := by simpa using c64))
                  clear c64
                  have H' := Aside0.mk H
                  clear H
                  try go_wp2
                  replace HO_14 := Aside0.mk (Kd.R_drew HO_14.out)
                  replace HO_15 := Aside0.mk (Kd.R_drew HO_15.out)
                  replace HO_17 := Aside0.mk (Kd.R_drew HO_17.out)
                  replace HO_360001 := Aside0.mk (Kd.R_drew HO_360001.out)
                  replace BK359 := Aside0.mk (blk_drew BK359.out)
                  replace HB := Aside0.mk (below_drew1 HB.out)
                  have p387 : 0 ≤ (x23_3 : Int) := od_
                  have q387 : x23_3 < (t368.length : Int) := od_
                  obtain ⟨ad387, A387_1, c387_1, e387, hx387_0, hx387_1, hl387_1, hi387_1⟩ := at_T26 (Kd.R_reads' HO_14.out).2.2 x23_3 p387 q387
                  cases e387
                  obtain ⟨ce387, hce387, hMe387, hcc387⟩ := Kd.R_getA HO_14.out z26 x23_3 p387 (by first | exact q387 | exact od_ | (have e_ := (Kd.R_reads' HO_14.out).1; omega))
                  obtain ⟨ve387_1, rfl, ge387_1⟩ := k26_openM hMe387
                  have hv387_1 := hcc387 1 _ rfl
                  rw [add_field _ _ 1 (by omega)] at hv387_1
                  replace hv387_1 := Option.some.inj (hv387_1.symm.trans hx387_1)
                  rw [hv387_1] at ge387_1
                  have HL387_1 := Aside0.mk (show Kd.R (Kd.int .i64) 2 _ _ _ _ ((rd_T26 t368 x23_3).f1) from ge387_1)
                  clear hv387_1 ge387_1
                  clear hcc387 hce387
                  have HR387_1 := Aside0.mk hi387_1
                  have HC387_1 := Aside0.mk hl387_1
                  clear hi387_1 hl387_1
                  replace p387 := eq_true p387
                  replace q387 := eq_true q387
                  have p388 : 0 ≤ (x23_3 : Int) := od_
                  have q388 : x23_3 < (t369.length : Int) := od_
                  obtain ⟨ad388, e388, hx388_0⟩ := Kd.at_int (Kd.R_reads' HO_15.out).2.2 x23_3 p388 q388
                  cases e388
                  replace p388 := eq_true p388
                  replace q388 := eq_true q388
                  refine start_ (n := 15) (S := fun w' => w'.cell? (ad387.add ((x23_3).toNat * 2)) = some (.int .i64 ((rd_T26 t368 x23_3).f0)) ∧ w'.cell? ⟨(ad387.add ((x23_3).toNat * 2)).block, (ad387.add ((x23_3).toNat * 2)).off + 1, none⟩ = some (.slice A387_1 ((rd_T26 t368 x23_3).f1).length c387_1) ∧ w'.cell? (ad388.add (x23_3).toNat) = some (.int .i64 (rd t369 x23_3))) (ds := []) #[f_,f_,f_,f_,f_,f_,f_,f_,f_,f_,f_,f_,f_,f_,f_] (by kernel_rfl) rfl rfl ⟨hx387_0, hx387_1, hx388_0⟩ (fun hHeld => ?_); refine with_tabW laws_FnCircuits.tab20 laws_FnCircuits.bits20 (fun HT_ HW_ => ?_)
                  generalize wc.drew = w68 at HO_14 HO_15 HO_17 HO_360001 BK359 HB HL387_1 HR387_1 hx387_0 hx387_1 hx388_0 hHeld ⊢
                  refine pu_ 0 139 #[t_,f_,f_,f_,f_,f_,f_,f_,f_,f_,f_,f_,f_,f_,f_] HT_.out ?_
                  refine pu_ 1 140 #[t_,t_,f_,f_,f_,f_,f_,f_,f_,f_,f_,f_,f_,f_,f_] HT_.out ?_
                  refine pu_ 2 141 #[t_,t_,t_,f_,f_,f_,f_,f_,f_,f_,f_,f_,f_,f_,f_] HT_.out ?_
                  refine pu_ 4 143 #[t_,t_,t_,f_,t_,f_,f_,f_,f_,f_,f_,f_,f_,f_,f_] HT_.out ?_
                  refine pu_ 5 144 #[t_,t_,t_,f_,t_,t_,f_,f_,f_,f_,f_,f_,f_,f_,f_] HT_.out ?_
                  refine pu_ 6 145 #[t_,t_,t_,f_,t_,t_,t_,f_,f_,f_,f_,f_,f_,f_,f_] HT_.out ?_
                  refine pu_ 8 147 #[t_,t_,t_,f_,t_,t_,t_,f_,t_,f_,f_,f_,f_,f_,f_] HT_.out ?_
                  refine take_ (i := 3) (N := some 142) (v := ?_) (a' := ?_) #[t_,t_,t_,t_,t_,t_,t_,f_,t_,f_,f_,f_,f_,f_,f_] rfl rfl (take_ofW HT_.out HW_.out (by kernel_rfl)) (fun _ _ _ h => h) (Or.inl ⟨by rfl, ?_⟩) hHeld ?_ ?_
                  rotate_left
                  ·rintro w' ⟨s0, s1, s2⟩
                   go_simp
                   with_reducible rfl
                  rotate_left
                  ·simp only [pz_]
                   rfl
                  refine take_ (i := 7) (N := some 146) (v := ?_) (a' := ?_) #[t_,t_,t_,t_,t_,t_,t_,t_,t_,f_,f_,f_,f_,f_,f_] rfl rfl (take_ofW HT_.out HW_.out (by kernel_rfl)) (fun _ _ _ h => h) (Or.inl ⟨by rfl, ?_⟩) hHeld ?_ ?_
                  rotate_left
                  ·rintro w' ⟨s0, s1, s2⟩
                   go_simp
                   with_reducible rfl
                  rotate_left
                  ·simp only [pz_]
                   rfl
                  refine one_ (i := 9) (N := some 148) #[t_,t_,t_,t_,t_,t_,t_,t_,t_,t_,f_,f_,f_,f_,f_] rfl rfl (one_of HT_.out (by kernel_rfl)) (by decide) (fun K hK => ?_)
                  refine goes_ Try.func17 (by kernel_rfl) rfl #[.agg #[.int .i64 ((rd_T26 t368 x23_3).f0), .slice A387_1 ((rd_T26 t368 x23_3).f1).length c387_1], .int .i64 (rd t369 x23_3), .int .i64 t370] (by rfl) rfl rfl ag_ ?_
                  with_reducible refine (impl_StateOf.calls kj54 ((rd_T26 t368 x23_3).f0) _ _ ((rd_T26 t368 x23_3).f1) (rd t369 x23_3) t370 t389 t390 _ ?side1 ?side2 A61.out).mono ?_
                  (case side1 => repeat (first | exact (by repeat (first | (with_reducible exact HR387_1.out) | (with_reducible refine Kd.C_alloc ?_ _) | (with_reducible refine Kd.C_drewN ?_ _) | (with_reducible refine Kd.C_drew ?_) | exact HR387_1.out)) | (with_reducible refine Kd.C_alloc ?_ _) | (with_reducible refine Kd.C_drewN ?_ _) | (with_reducible refine Kd.C_drew ?_)))
                  (case side2 => exact HC387_1.out)
                  rintro e w69 ⟨rfl, hb⟩
                  have HS0_ := (hb.cell (World.block_lt_of_cell? _ _ (hHeld.1))).trans (hHeld.1)
                  have HS1_ := (hb.cell (World.block_lt_of_cell? _ _ (hHeld.2.1))).trans (hHeld.2.1)
                  have HS2_ := (hb.cell (World.block_lt_of_cell? _ _ (hHeld.2.2))).trans (hHeld.2.2)
                  refine ⟨_, rfl, ?_⟩
                  replace HO_14 := Aside0.mk (Kd.R_below (rk_ HO_14.out) hb)
                  replace HO_15 := Aside0.mk (Kd.R_below (rk_ HO_15.out) hb)
                  replace HO_17 := Aside0.mk (Kd.R_below (rk_ HO_17.out) hb)
                  replace HO_360001 := Aside0.mk (Kd.R_below (rk_ HO_360001.out) hb)
                  replace HL387_1 := Aside0.mk (Kd.R_below (rk_ HL387_1.out) hb)
                  replace BK359 := Aside0.mk (blk_below (g := gb359) (o := .cells #[.int .i64 t353, .slice Ao16 t354.length co16] 26 (0, 0)) (r0_ BK359.out) hb)
                  replace HR387_1 := Aside0.mk (Kd.C_below (by repeat (first | (with_reducible exact HR387_1.out) | (with_reducible refine Kd.C_alloc ?_ _) | (with_reducible refine Kd.C_drewN ?_ _) | (with_reducible refine Kd.C_drew ?_) | exact HR387_1.out)) hb)
                  replace HB := Aside0.mk (below_step (r1_ HB.out GE359.out) hb)
                  (try clear hb)
                  (try clear hb2)
                  (try clear hk)
                  (try clear hi)
                  refine hK.out _ _ ⟨HS0_, HS1_, HS2_⟩ (fun hHeld => ?_)
                  clear hK K
                  refine norm_ (a' := ?_) ?_ ?_
                  rotate_left
                  ·show Act.put _ (some 148) _ = _
                   simp only [pz_]
                   rfl
                  refine pu_ 10 138 #[t_,t_,t_,t_,t_,t_,t_,t_,t_,t_,t_,f_,f_,f_,f_] HT_.out ?_
                  refine pu_ 11 149 #[t_,t_,t_,t_,t_,t_,t_,t_,t_,t_,t_,t_,f_,f_,f_] HT_.out ?_
                  refine pu_ 12 150 #[t_,t_,t_,t_,t_,t_,t_,t_,t_,t_,t_,t_,t_,f_,f_] HT_.out ?_
                  refine pu_ 13 24 #[t_,t_,t_,t_,t_,t_,t_,t_,t_,t_,t_,t_,t_,t_,f_] HT_.out ?_
                  refine pu_ 14 25 #[t_,t_,t_,t_,t_,t_,t_,t_,t_,t_,t_,t_,t_,t_,t_] HT_.out ?_
                  refine done_ (done_of HT_.out (by kernel_rfl)) ?_
                  obtain ⟨Ao70, co70, eo70⟩ := Kd.R_slice HO_17.out
                  subst eo70
                  try go_wp2_with (first | (go_at_call 26; (with_reducible refine (laws_hasInt.calls kj54 _ _ t375 x23_3 t391 _ ?side1 ?side2 A63.out).mono ?_); (case side1 => exact r11_ HO_17.out); (case side2 => exact (Kd.R_reads' HO_17.out).2.1); rintro e w' ⟨rfl, ⟨nd, rfl⟩⟩))
                  go_roundg kj54
                  case measure => have := HJ11.out; have := HJ43.out; have := HK3.out; have := HJ54.out; omega
                  case rel => exact ⟨(wrap64 (x23_3 + 1)), (by first | rfl | (simp; done) | (simp [*]; done)), H', ⟨by have := HJ11.out; have := HJ43.out; have := HK3.out; have := HJ54.out; omega⟩, ⟨rk_ HO_14.out⟩, ⟨rk_ HO_15.out⟩, ⟨rk_ HO_17.out⟩, ⟨rk_ HO_360001.out⟩, ⟨r0_ BK359.out⟩, ⟨r1_ HB.out GE359.out⟩⟩
               ·replace c57 := Bool.eq_false_iff.mpr c57
                subst c57
                replace H : (if t361 = 0 then (if t360 ≥ 0 then (some (decide (t360 ≤ 3))) else (some false)) else (some true)) = some r := by rw [if_neg (show ¬ (false = true) by decide)] at H; exact H
                by_cases c73 : t361 = 0
                ·rw [if_pos c73] at H
                 have c73b0 : (t361 == 0) = true := beq_iff_eq.mpr c73
                 have c73b1 : (t361 != 0) = false := bne_eq_false_iff_eq.mpr c73
                 clear c73
                 by_cases c74 : t360 ≥ 0
                 case neg =>
                  rw [if_neg c74] at H
                  have c74b0 : decide (0 ≤ t360) = false := decide_eq_false c74
                  clear c74
                  exact absurd ((Option.some.inj H).trans hT) (by decide)
                 rw [if_pos c74] at H
                 have c74b0 : decide (0 ≤ t360) = true := decide_eq_true c74
                 clear c74
                 obtain rfl := Option.some.inj H
                 go_wp2
                 go_ret
                 exact ⟨by first | rfl | (simp [errW_none, errW_some] <;> rfl) | (simp [*, errW_none, errW_some] <;> rfl), r1_ HB.out GE359.out⟩
                ·rw [if_neg c73] at H
                 have c73b0 : (t361 == 0) = false := beq_eq_false_iff_ne.mpr c73
                 have c73b1 : (t361 != 0) = true := bne_iff_ne.mpr c73
                 obtain rfl := Option.some.inj H
                 go_wp2
                 go_ret
                 exact ⟨by first | rfl | (simp [errW_none, errW_some] <;> rfl) | (simp [*, errW_none, errW_some] <;> rfl), r1_ HB.out GE359.out⟩
/-- THE ONE PURE STATEMENT of laws_FnCircuits: yours. -/
def laws_FnCircuits.Pure : Prop := ∀ (l0 : List Int), l0.length ≤ maxLen → l0.length * 1 ≤ 140737488351232 → (∀ x ∈ l0, (Lit.int .u8 x).wf = true) → ∃ k, laws_FnCircuits.f k l0 = some true
theorem laws_FnCircuits.walk (P : laws_FnCircuits.Pure) (a0 : Option Addr) (len0 cap0 : Nat) (z0 : List Int) (w : World) (w0 : (a0 = none ∧ len0 = 0 ∧ cap0 = 0 ∧ z0 = []) ∨ ∃ x, a0 = some x ∧ len0 ≤ cap0 ∧ cap0 ≤ maxLen ∧ z0.length = cap0 ∧ (∀ i, i < z0.length → w.cell? (x.add i) = some (.int .u8 (z0.getD i 0))) ∧ ∀ n ∈ z0, (Lit.int .u8 n).wf = true) (y0 : len0 * 1 ≤ 140737488351232) :
  Calls Try.prog 3 #[.slice a0 len0 cap0] w fun e w' => e = .returned (.bool true) ∧ Below w.heap.size w w' := by
 obtain ⟨l0, rfl, hr0, hm0, hw0, hc0⟩ := ReadsInt.ofRowC w0
 obtain ⟨k, h⟩ := P l0 hm0 y0 hw0
 refine (laws_FnCircuits.calls k _ _ l0 true w (Kd.C_of_reads (d := (0 : Int)) (h1 := fun _ => rfl) hr0) hc0 h rfl).mono ?_
 rintro e w' ⟨rfl, hd⟩
 exact ⟨rfl, hd⟩
end Go.Proofs.Ytmahecjbejffoaa.PFnCircuits
