/- QFnAreaTextsb of the law FnAreaTexts: taken over, declaration by declaration, as far as the law leans on it (the words and the printed functions are the kit's own print). No condition but what each says. -/
import Derived.Test.YtedcdhnbceaaeaaZFnAreaTextsav
import Derived.Test.YtedcdhnbceaaeaaZFnAreaTextsaw
import Derived.Test.YtedcdhnbceaaeaaZFnAreaTextsax
namespace Go.Proofs.Ytedcdhnbceaaeaa.PFnAreaTexts
open Go.RowKit Go.Proofs.YtedcdhnbceaaeaaW.PrintWords Go.Proofs.YtedcdhnbceaaeaaW.PrintLast Go.Proofs.YtedcdhnbceaaeaaW.PrintMore
attribute [local go_sem] max2_int min2_int max_two min_two max_three min_three max_four min_four   -- for this text's walks alone
set_option linter.unusedVariables false
set_option linter.unusedSimpArgs false
open Bool renaming true → t_, false → f_
mutual
def spec_ReadArea.j0 : Nat → ByteArray → List ByteArray → List Int → Bool → Option (Int × Int × Int × Int × Int × Int)
 | 0, _, _, _, _ => none
 | k + 1, x0, x4, x6, x43 => if x43 = true then (some (0, 0, 0, 0, 0, 6)) else (if 0 < (x6.length : Int) then (if 1 < (x6.length : Int) then (if 2 < (x6.length : Int) then (if 3 < (x6.length : Int) then (spec_ReadArea.l0 k x0 x4 0 (-1) (rd x6 0) (rd x6 1) (rd x6 2) (rd x6 3)) else (none)) else (none)) else (none)) else (none))
def spec_ReadArea.l0 : Nat → ByteArray → List ByteArray → Int → Int → Int → Int → Int → Int → Option (Int × Int × Int × Int × Int × Int)
 | 0, _, _, _, _, _, _, _, _ => none
 | k + 1, x0, x4, x9, x176000, x176001, x176002, x176003, x176004 => if x9 < 4 then ((spec_l15Word.f x9).bind fun t176 => (if 0 < (x4.length : Int) then (if t176.toList = (rdOf ByteArray.empty x4 0).toList then (spec_ReadArea.l0 k x0 x4 (wrap64 (x9 + 1)) x9 x176001 x176002 x176003 x176004) else (spec_ReadArea.l0 k x0 x4 (wrap64 (x9 + 1)) x176000 x176001 x176002 x176003 x176004)) else (none))) else ((spec_IsArea.f x176000 x176001 x176002 x176003 x176004).bind fun t178 => (if t178 = true then ((spec_l15Text.f k x176000 x176001 x176002 x176003 x176004).bind fun t179 => (if t179.toList = x0.toList then (some (x176000, x176001, x176002, x176003, x176004, 0)) else (some (0, 0, 0, 0, 0, 6)))) else (some (0, 0, 0, 0, 0, 6))))
end
def spec_ReadArea.f (k : Nat) (a0 : ByteArray) : Option (Int × Int × Int × Int × Int × Int) := (spec_l01Split.f k a0 32).bind fun t149 => (if (t149.length : Int) = 2 then (if 1 < (t149.length : Int) then ((spec_l01Split.f k (rdOf ByteArray.empty t149 1) 43).bind fun t153 => (if (t153.length : Int) = 2 then (if 0 < (t153.length : Int) then ((spec_l01Split.f k (rdOf ByteArray.empty t153 0) 44).bind fun t157 => (if 1 < (t153.length : Int) then ((spec_l01Split.f k (rdOf ByteArray.empty t153 1) 42).bind fun t161 => (if t157.length + t161.length < 8796093022208 then ((spec_l01Numbers.f k (t157 ++ t161)).bind fun bt167 => (if bt167.2 = true then (spec_ReadArea.j0 k a0 t149 bt167.1 ((bt167.1.length : Int) != 4)) else (spec_ReadArea.j0 k a0 t149 bt167.1 true))) else (none))) else (none))) else (none)) else (some (0, 0, 0, 0, 0, 6)))) else (none)) else (some (0, 0, 0, 0, 0, 6)))
def spec_ReadArea.T7 : Bool × List (List Nat × List Nat) := (true, [([], []), ([0], [0]), ([1], [1]), ([2], [2]), ([], []), ([4], [4]), ([5], [5]), ([6, 3], [6]), ([3, 7, 7], [3, 7]), ([8, 8], [8]), ([9], [9]), ([10], [10]), ([10], [10]), ([11, 9, 0, 1, 2, 3, 4, 5, 6, 7, 8, 9, 10, 11], [11]), ([12, 13, 0, 1, 2, 3, 4, 5, 6, 7, 8, 9, 10, 11, 12, 13], [12])])
def spec_ReadArea.B7 : List Nat := [0, 1, 3, 7, 0, 16, 48, 127, 255, 511, 1023, 2047, 2047, 4095, 16383]
theorem spec_ReadArea.tab7 : rtab .any (opsOf Try.f61 7) = spec_ReadArea.T7 := by kernel_rfl
theorem spec_ReadArea.bits7 : waitsOk spec_ReadArea.T7.2 spec_ReadArea.B7 = true := by kernel_rfl
def spec_ReadArea.T10 : Bool × List (List Nat × List Nat) := (true, [([], []), ([0], [0]), ([1], [1]), ([], []), ([3], [3]), ([4], [4]), ([], []), ([6], [6]), ([7], [7]), ([], []), ([9], [9]), ([10], [10]), ([2, 5, 8, 11], [2, 5, 8, 11]), ([], []), ([13, 12, 0, 1, 2, 3, 4, 5, 6, 7, 8, 9, 10, 11, 12, 13], [12, 13])])
def spec_ReadArea.B10 : List Nat := [0, 1, 3, 0, 8, 24, 0, 64, 192, 0, 512, 1536, 4095, 0, 16383]
theorem spec_ReadArea.tab10 : rtab .any (opsOf Try.f61 10) = spec_ReadArea.T10 := by kernel_rfl
theorem spec_ReadArea.bits10 : waitsOk spec_ReadArea.T10.2 spec_ReadArea.B10 = true := by kernel_rfl
theorem cell_far5_ {W : World} {g : Nat} {a : Addr} (h : a.block ≠ g) (u0 u1 u2 u3 u4 : Value) : (((((W.setCell ⟨g, 0, none⟩ u0).setCell ⟨g, 1, none⟩ u1).setCell ⟨g, 2, none⟩ u2).setCell ⟨g, 3, none⟩ u3).setCell ⟨g, 4, none⟩ u4).cell? a = W.cell? a := by
 rw [cell_far (p := ⟨g, 4, none⟩) h, cell_far (p := ⟨g, 3, none⟩) h, cell_far (p := ⟨g, 2, none⟩) h, cell_far (p := ⟨g, 1, none⟩) h, cell_far (p := ⟨g, 0, none⟩) h]
set_option maxHeartbeats 8000000 in
set_option maxRecDepth 100000 in
theorem spec_ReadArea.calls (k : Nat) (a0 : ByteArray) (r1 : Int) (r2 : Int) (r3 : Int) (r4 : Int) (r5 : Int) (r6 : Int) (w : World) (h : spec_ReadArea.f k a0 = some (r1, r2, r3, r4, r5, r6)) :
  Calls Try.prog 61 #[.string a0] w fun e w' => e = .returned (.tuple #[.agg #[.int .i64 r1, .int .i64 r2, .int .i64 r3, .int .i64 r4, .int .i64 r5], .int .i64 r6]) ∧ Below w.heap.size w w' := by
 have hu83 := Try.underlying83
 have HB := Aside0.mk (Below.refl w.heap.size w)
 have H : ((spec_l01Split.f k a0 32).bind fun t149 => (if (t149.length : Int) = 2 then (if 1 < (t149.length : Int) then ((spec_l01Split.f k (rdOf ByteArray.empty t149 1) 43).bind fun t153 => (if (t153.length : Int) = 2 then (if 0 < (t153.length : Int) then ((spec_l01Split.f k (rdOf ByteArray.empty t153 0) 44).bind fun t157 => (if 1 < (t153.length : Int) then ((spec_l01Split.f k (rdOf ByteArray.empty t153 1) 42).bind fun t161 => (if t157.length + t161.length < 8796093022208 then ((spec_l01Numbers.f k (t157 ++ t161)).bind fun bt167 => (if bt167.2 = true then (spec_ReadArea.j0 k a0 t149 bt167.1 ((bt167.1.length : Int) != 4)) else (spec_ReadArea.j0 k a0 t149 bt167.1 true))) else (none))) else (none))) else (none)) else (some (0, 0, 0, 0, 0, 6)))) else (none)) else (some (0, 0, 0, 0, 0, 6)))) = some (r1, r2, r3, r4, r5, r6) := h
 clear h
 replace H := Option.bind_eq_some_iff.mp H
 obtain ⟨t149, A20, H⟩ := H
 replace H : (if (t149.length : Int) = 2 then (if 1 < (t149.length : Int) then ((spec_l01Split.f k (rdOf ByteArray.empty t149 1) 43).bind fun t153 => (if (t153.length : Int) = 2 then (if 0 < (t153.length : Int) then ((spec_l01Split.f k (rdOf ByteArray.empty t153 0) 44).bind fun t157 => (if 1 < (t153.length : Int) then ((spec_l01Split.f k (rdOf ByteArray.empty t153 1) 42).bind fun t161 => (if t157.length + t161.length < 8796093022208 then ((spec_l01Numbers.f k (t157 ++ t161)).bind fun bt167 => (if bt167.2 = true then (spec_ReadArea.j0 k a0 t149 bt167.1 ((bt167.1.length : Int) != 4)) else (spec_ReadArea.j0 k a0 t149 bt167.1 true))) else (none))) else (none))) else (none)) else (some (0, 0, 0, 0, 0, 6)))) else (none)) else (some (0, 0, 0, 0, 0, 6))) = some (r1, r2, r3, r4, r5, r6) := H
 have A2 := Aside0.mk A20
 clear A20
 by_cases c3 : (t149.length : Int) = 2
 ·rw [if_pos c3] at H
  have c3b0 : ((t149.length : Int) == 2) = true := beq_iff_eq.mpr c3
  have c3b1 : ((t149.length : Int) != 2) = false := bne_eq_false_iff_eq.mpr c3
  clear c3
  by_cases c4 : 1 < (t149.length : Int)
  case neg =>
   rw [if_neg c4] at H
   exact absurd H (by simp)
  rw [if_pos c4] at H
  have c4b0 : decide (1 < (t149.length : Int)) = true := decide_eq_true c4
  have c4b1 : decide (1 < t149.length) = true := decide_eq_true (by omega)
  clear c4
  replace H := Option.bind_eq_some_iff.mp H
  obtain ⟨t153, A50, H⟩ := H
  replace H : (if (t153.length : Int) = 2 then (if 0 < (t153.length : Int) then ((spec_l01Split.f k (rdOf ByteArray.empty t153 0) 44).bind fun t157 => (if 1 < (t153.length : Int) then ((spec_l01Split.f k (rdOf ByteArray.empty t153 1) 42).bind fun t161 => (if t157.length + t161.length < 8796093022208 then ((spec_l01Numbers.f k (t157 ++ t161)).bind fun bt167 => (if bt167.2 = true then (spec_ReadArea.j0 k a0 t149 bt167.1 ((bt167.1.length : Int) != 4)) else (spec_ReadArea.j0 k a0 t149 bt167.1 true))) else (none))) else (none))) else (none)) else (some (0, 0, 0, 0, 0, 6))) = some (r1, r2, r3, r4, r5, r6) := H
  have A5 := Aside0.mk A50
  clear A50
  by_cases c6 : (t153.length : Int) = 2
  ·rw [if_pos c6] at H
   have c6b0 : ((t153.length : Int) == 2) = true := beq_iff_eq.mpr c6
   have c6b1 : ((t153.length : Int) != 2) = false := bne_eq_false_iff_eq.mpr c6
   clear c6
   by_cases c7 : 0 < (t153.length : Int)
   case neg =>
    rw [if_neg c7] at H
    exact absurd H (by simp)
   rw [if_pos c7] at H
   have c7b0 : decide (0 < (t153.length : Int)) = true := decide_eq_true c7
   have c7b1 : decide (0 < t153.length) = true := decide_eq_true (by omega)
   clear c7
   replace H := Option.bind_eq_some_iff.mp H
   obtain ⟨t157, A80, H⟩ := H
   replace H : (if 1 < (t153.length : Int) then ((spec_l01Split.f k (rdOf ByteArray.empty t153 1) 42).bind fun t161 => (if t157.length + t161.length < 8796093022208 then ((spec_l01Numbers.f k (t157 ++ t161)).bind fun bt167 => (if bt167.2 = true then (spec_ReadArea.j0 k a0 t149 bt167.1 ((bt167.1.length : Int) != 4)) else (spec_ReadArea.j0 k a0 t149 bt167.1 true))) else (none))) else (none)) = some (r1, r2, r3, r4, r5, r6) := H
   have A8 := Aside0.mk A80
   clear A80
   by_cases c9 : 1 < (t153.length : Int)
   case neg =>
    rw [if_neg c9] at H
    exact absurd H (by simp)
   rw [if_pos c9] at H
   have c9b0 : decide (1 < (t153.length : Int)) = true := decide_eq_true c9
   have c9b1 : decide (1 < t153.length) = true := decide_eq_true (by omega)
   clear c9
   replace H := Option.bind_eq_some_iff.mp H
   obtain ⟨t161, A100, H⟩ := H
   replace H : (if t157.length + t161.length < 8796093022208 then ((spec_l01Numbers.f k (t157 ++ t161)).bind fun bt167 => (if bt167.2 = true then (spec_ReadArea.j0 k a0 t149 bt167.1 ((bt167.1.length : Int) != 4)) else (spec_ReadArea.j0 k a0 t149 bt167.1 true))) else (none)) = some (r1, r2, r3, r4, r5, r6) := H
   have A10 := Aside0.mk A100
   clear A100
   by_cases c11 : t157.length + t161.length < 8796093022208
   case neg =>
    rw [if_neg c11] at H
    exact absurd H (by simp)
   rw [if_pos c11] at H
   have LMc11 := Aside0.mk c11
   clear c11
   obtain ⟨y164, hy164⟩ : ∃ y_ : List ByteArray, y_ = (t157 ++ t161) := ⟨_, rfl⟩
   replace H : ((spec_l01Numbers.f k y164).bind fun bt167 => (if bt167.2 = true then (spec_ReadArea.j0 k a0 t149 bt167.1 ((bt167.1.length : Int) != 4)) else (spec_ReadArea.j0 k a0 t149 bt167.1 true))) = some (r1, r2, r3, r4, r5, r6) := by first | (rw [hy164]; with_reducible exact H) | (have H2_ := (Option.bind_some _ _).symm.trans H; rw [hy164]; with_reducible exact H2_) | (have H2_ := (Option.bind_some _ _).symm.trans H; with_reducible exact H2_) | with_reducible exact H | (rw [hy164]; exact H) | exact H
   have Ny164 := Aside0.mk hy164
   clear hy164
   replace H := Option.bind_eq_some_iff.mp H
   obtain ⟨⟨t167, t168⟩, A120, H⟩ := H
   replace H : (if t168 = true then (spec_ReadArea.j0 k a0 t149 t167 ((t167.length : Int) != 4)) else (spec_ReadArea.j0 k a0 t149 t167 true)) = some (r1, r2, r3, r4, r5, r6) := H
   have A12 := Aside0.mk A120
   clear A120
   have HC13 := Aside0.mk H
   clear H
   go_enter Try.func61, Try.ntmps61
   try go_wp2_with (first | ((with_reducible refine gate_dst (N := 2) rfl ?_); (try (refine gate_guard (by rfl) ?_; dsimp only)); refine box_event ?hg (N := 2) ?hd (cs := #[.int .i64 0, .int .i64 0, .int .i64 0, .int .i64 0, .int .i64 0]) (t := 83) ?hr ?_; (case hd => rfl); (case hg => rfl); (case hr => first | (go_simp; done) | (go_simp; rfl)); intro gb148 hg w14 hbox hb; have BK148 := Aside0.mk (hbox); have GW148 := Aside0.mk ((by rw [hg]; exact (below_size (bl_ HB.out)) : w.heap.size ≤ gb148)); have GE148 := Aside0.mk ((by rw [hg]; exact (below_size (bl_ HB.out)) : w.heap.size ≤ gb148)); replace HB := Aside0.mk (below_step (bl_ HB.out) hb); clear hb hbox hg) | ((with_reducible refine gate_callee (f := 156) rfl ?_); refine goesL_ (some 11) rfl rfl Try.func156 (by kernel_rfl) rfl #[.string a0, .int .u8 32] rfl ag_ ?_; (with_reducible refine (spec_l01Split.calls k a0 32 t149 _ A2.out).mono ?_); rintro e w15 ⟨v150, rfl, ho0, hb⟩; refine ⟨_, rfl, ?_⟩; have HO151 := Aside0.mk (Kd.R_lower ho0 (below_size (r1_ HB.out GE148.out))); replace BK148 := Aside0.mk (blk_below (g := gb148) (o := .cells #[.int .i64 0, .int .i64 0, .int .i64 0, .int .i64 0, .int .i64 0] 83 (0, 0)) (r0_ BK148.out) hb); replace HB := Aside0.mk (below_step (r1_ HB.out GE148.out) hb); (try clear hb); (try clear hb2); (try clear hk); (try clear hi); (try clear ho0); obtain ⟨Ao16, co16, eo16⟩ := Kd.R_slice HO151.out; subst eo16; have p152 : 0 ≤ (1 : Int) := (by omega); have q152 : 1 < (t149.length : Int) := od_; obtain ⟨ad152, e152, hx152_0⟩ := Kd.at_string (Kd.R_reads' HO151.out).2.2 1 p152 q152; cases e152; (try simp only [show (1 : Int).toNat = 1 from rfl, Nat.reduceMul, Nat.reduceEqDiff, Go.Addr.add, ↓reduceIte] at hx152_0); have qi152 : (1 < t149.length) = True := eq_true (by omega); (try rw [show ((1 : Int)).toNat = 1 from rfl] at hx152_0); replace p152 := eq_true p152; replace q152 := eq_true q152) | ((with_reducible refine gate_callee (f := 156) rfl ?_); refine goesL_ (some 19) rfl rfl Try.func156 (by kernel_rfl) rfl #[.string (rdOf ByteArray.empty t149 1), .int .u8 43] rfl ag_ ?_; (with_reducible refine (spec_l01Split.calls k (rdOf ByteArray.empty t149 1) 43 t153 _ A5.out).mono ?_); rintro e w17 ⟨v154, rfl, ho0, hb⟩; refine ⟨_, rfl, ?_⟩; have HO155 := Aside0.mk (Kd.R_lower (Kd.R_new' ho0 (Kd.R_lt (rk_ HO151.out))) (below_size (r1_ HB.out GE148.out))); replace HO151 := Aside0.mk (Kd.R_elder' (rk_ HO151.out) (Kd.R_base ho0) hb); replace BK148 := Aside0.mk (blk_below (g := gb148) (o := .cells #[.int .i64 0, .int .i64 0, .int .i64 0, .int .i64 0, .int .i64 0] 83 (0, 0)) (r0_ BK148.out) hb); replace HB := Aside0.mk (below_step (r1_ HB.out GE148.out) hb); (try clear hb); (try clear hb2); (try clear hk); (try clear hi); (try clear ho0); obtain ⟨Ao18, co18, eo18⟩ := Kd.R_slice HO155.out; subst eo18))
   replace HO151 := Aside0.mk (Kd.R_drew HO151.out)
   replace HO155 := Aside0.mk (Kd.R_drew HO155.out)
   replace BK148 := Aside0.mk (blk_drew BK148.out)
   replace HB := Aside0.mk (below_drew1 HB.out)
   have p156 : 0 ≤ (0 : Int) := (by omega)
   have q156 : 0 < (t153.length : Int) := od_
   obtain ⟨ad156, e156, hx156_0⟩ := Kd.at_string (Kd.R_reads' HO155.out).2.2 0 p156 q156
   cases e156
   have qi156 : (0 < t153.length) = True := eq_true (by omega)
   (try rw [show ((0 : Int)).toNat = 0 from rfl] at hx156_0)
   (try rw [Addr.add_zero'] at hx156_0)
   replace p156 := eq_true p156
   replace q156 := eq_true q156
   have p160 : 0 ≤ (1 : Int) := (by omega)
   have q160 : 1 < (t153.length : Int) := od_
   obtain ⟨ad160, e160, hx160_0⟩ := Kd.at_string (Kd.R_reads' HO155.out).2.2 1 p160 q160
   obtain rfl : ad156 = ad160 := (by injection e160)
   (try simp only [show (1 : Int).toNat = 1 from rfl, Nat.reduceMul, Nat.reduceEqDiff, Go.Addr.add, ↓reduceIte] at hx160_0)
   have qi160 : (1 < t153.length) = True := eq_true (by omega)
   (try rw [show ((1 : Int)).toNat = 1 from rfl] at hx160_0)
   replace p160 := eq_true p160
   replace q160 := eq_true q160
   refine start_ (n := 15) (S := fun w' => w'.cell? ad156 = some (.string (rdOf ByteArray.empty t153 0)) ∧ w'.cell? ⟨ad156.block, ad156.off + 1, none⟩ = some (.string (rdOf ByteArray.empty t153 1))) (ds := []) #[f_,f_,f_,f_,f_,f_,f_,f_,f_,f_,f_,f_,f_,f_,f_] (by kernel_rfl) rfl rfl ⟨hx156_0, hx160_0⟩ (fun hHeld => ?_); refine with_tabW spec_ReadArea.tab7 spec_ReadArea.bits7 (fun HT_ HW_ => ?_)
   generalize w17.drew = w19 at HO151 HO155 BK148 HB hx156_0 hx160_0 hHeld ⊢
   refine pu_ 0 25 #[t_,f_,f_,f_,f_,f_,f_,f_,f_,f_,f_,f_,f_,f_,f_] HT_.out ?_
   refine pu_ 1 26 #[t_,t_,f_,f_,f_,f_,f_,f_,f_,f_,f_,f_,f_,f_,f_] HT_.out ?_
   refine pu_ 4 29 #[t_,t_,f_,f_,t_,f_,f_,f_,f_,f_,f_,f_,f_,f_,f_] HT_.out ?_
   refine pu_ 5 30 #[t_,t_,f_,f_,t_,t_,f_,f_,f_,f_,f_,f_,f_,f_,f_] HT_.out ?_
   refine take_ (i := 2) (N := some 27) (v := ?_) (a' := ?_) #[t_,t_,t_,f_,t_,t_,f_,f_,f_,f_,f_,f_,f_,f_,f_] rfl rfl (take_ofW HT_.out HW_.out (by kernel_rfl)) (fun _ _ _ h => h) (Or.inl ⟨by rfl, ?_⟩) hHeld ?_ ?_
   rotate_left
   ·rintro w' ⟨s0, s1⟩
    go_simp
    with_reducible rfl
   rotate_left
   ·simp only [pz_]
    rfl
   refine take_ (i := 6) (N := some 31) (v := ?_) (a' := ?_) #[t_,t_,t_,f_,t_,t_,t_,f_,f_,f_,f_,f_,f_,f_,f_] rfl rfl (take_ofW HT_.out HW_.out (by kernel_rfl)) (fun _ _ _ h => h) (Or.inl ⟨by rfl, ?_⟩) hHeld ?_ ?_
   rotate_left
   ·rintro w' ⟨s0, s1⟩
    go_simp
    with_reducible rfl
   rotate_left
   ·simp only [pz_]
    rfl
   refine one_ (i := 3) (N := some 28) #[t_,t_,t_,t_,t_,t_,t_,f_,f_,f_,f_,f_,f_,f_,f_] rfl rfl (one_of HT_.out (by kernel_rfl)) (by decide) (fun K hK => ?_)
   refine goes_ Try.func156 (by kernel_rfl) rfl #[.string (rdOf ByteArray.empty t153 0), .int .u8 44] (by rfl) rfl rfl ag_ ?_
   with_reducible refine (spec_l01Split.calls k (rdOf ByteArray.empty t153 0) 44 t157 _ A8.out).mono ?_
   rintro e w20 ⟨v158, rfl, ho0, hb⟩
   have HS0_ := (hb.cell (World.block_lt_of_cell? _ _ (hHeld.1))).trans (hHeld.1)
   have HS1_ := (hb.cell (World.block_lt_of_cell? _ _ (hHeld.2))).trans (hHeld.2)
   refine ⟨_, rfl, ?_⟩
   have HO159 := Aside0.mk (Kd.R_lower (Kd.R_new' (Kd.R_new' ho0 (Kd.R_lt (rk_ HO151.out))) (Kd.R_lt (rk_ HO155.out))) (below_size (r1_ HB.out GE148.out)))
   replace HO151 := Aside0.mk (Kd.R_elder' (rk_ HO151.out) (Kd.R_base ho0) hb)
   replace HO155 := Aside0.mk (Kd.R_elder' (rk_ HO155.out) (Kd.R_base ho0) hb)
   replace BK148 := Aside0.mk (blk_below (g := gb148) (o := .cells #[.int .i64 0, .int .i64 0, .int .i64 0, .int .i64 0, .int .i64 0] 83 (0, 0)) (r0_ BK148.out) hb)
   replace HB := Aside0.mk (below_step (r1_ HB.out GE148.out) hb)
   (try clear hb)
   (try clear hb2)
   (try clear hk)
   (try clear hi)
   (try clear ho0)
   refine hK.out _ _ ⟨HS0_, HS1_⟩ (fun hHeld => ?_)
   clear hK K
   refine norm_ (a' := ?_) ?_ ?_
   rotate_left
   ·show Act.put _ (some 28) _ = _
    simp only [pz_]
    rfl
   refine one_ (i := 7) (N := some 32) #[t_,t_,t_,t_,t_,t_,t_,t_,f_,f_,f_,f_,f_,f_,f_] rfl rfl (one_of HT_.out (by kernel_rfl)) (by decide) (fun K hK => ?_)
   refine goes_ Try.func156 (by kernel_rfl) rfl #[.string (rdOf ByteArray.empty t153 1), .int .u8 42] (by rfl) rfl rfl ag_ ?_
   with_reducible refine (spec_l01Split.calls k (rdOf ByteArray.empty t153 1) 42 t161 _ A10.out).mono ?_
   rintro e w21 ⟨v162, rfl, ho0, hb⟩
   have HS0_ := (hb.cell (World.block_lt_of_cell? _ _ (hHeld.1))).trans (hHeld.1)
   have HS1_ := (hb.cell (World.block_lt_of_cell? _ _ (hHeld.2))).trans (hHeld.2)
   refine ⟨_, rfl, ?_⟩
   have HO163 := Aside0.mk (Kd.R_lower (Kd.R_new' (Kd.R_new' (Kd.R_new' ho0 (Kd.R_lt (rk_ HO151.out))) (Kd.R_lt (rk_ HO155.out))) (Kd.R_lt (rk_ HO159.out))) (below_size (r1_ HB.out GE148.out)))
   replace HO151 := Aside0.mk (Kd.R_elder' (rk_ HO151.out) (Kd.R_base ho0) hb)
   replace HO155 := Aside0.mk (Kd.R_elder' (rk_ HO155.out) (Kd.R_base ho0) hb)
   replace HO159 := Aside0.mk (Kd.R_elder' (rk_ HO159.out) (Kd.R_base ho0) hb)
   replace BK148 := Aside0.mk (blk_below (g := gb148) (o := .cells #[.int .i64 0, .int .i64 0, .int .i64 0, .int .i64 0, .int .i64 0] 83 (0, 0)) (r0_ BK148.out) hb)
   replace HB := Aside0.mk (below_step (r1_ HB.out GE148.out) hb)
   (try clear hb)
   (try clear hb2)
   (try clear hk)
   (try clear hi)
   (try clear ho0)
   obtain ⟨Ao23, co23, eo23⟩ := Kd.R_slice HO163.out
   (first | subst eo23 | (injection eo23 with f1_ f2_ f3_; have f4_ := f1_.symm; have f5_ := f3_.symm; clear f1_ f2_ f3_; subst f4_; subst f5_))
   refine hK.out _ _ ⟨HS0_, HS1_⟩ (fun hHeld => ?_)
   clear hK K
   refine norm_ (a' := ?_) ?_ ?_
   rotate_left
   ·show Act.put _ (some 32) _ = _
    simp only [pz_]
    rfl
   refine one_ (i := 8) (N := some 33) #[t_,t_,t_,t_,t_,t_,t_,t_,t_,f_,f_,f_,f_,f_,f_] rfl rfl (one_of HT_.out (by kernel_rfl)) (by decide) (fun K hK => ?_)
   refine Kd.R_append_rows_step Kd.string (w0 := w) w.heap.size (by rfl) (.tmp 28) (.tmp 32) 179 9 (.string ⟨#[]⟩) 16 rfl Try.underlying179 info9 rfl (by decide) (by omega) v158 t157 t161 _ _ _ (fun k_ => some k_ ≠ (.slice (some ad152) t149.length co16 : Value).ownBlock ∧ some k_ ≠ (.slice (some ad156) t153.length co18 : Value).ownBlock ∧ some k_ ≠ (.slice Ao23 t161.length co23 : Value).ownBlock) (fun _ => False) rfl rfl ?aO ?aR (fun _ _ h => h) (fun _ h => h.elim) ?aF ?aB ?aS ?aL ?_
   (case aR => exact r13_ HO163.out)
   (case aB => exact (r1_ HB.out GE148.out))
   (case aF => exact (fun k_ hk => ⟨Kd.fresh' (Kd.R_lt (rk_ HO151.out)) k_ hk, Kd.fresh' (Kd.R_lt (rk_ HO155.out)) k_ hk, Kd.fresh' (Kd.R_lt (rk_ HO163.out)) k_ hk⟩))
   (case aO => exact (rk_ (Kd.R_mono HO159.out (fun _ hk => ⟨hk.1.1.2, ⟨hk.1.2, hk.2⟩⟩))))
   (case aS => exact (below_size (r1_ HB.out GE148.out)))
   (case aL => have := LMc11.out; omega)
   intro v165 w22 ho hb hg hat
   have HS0_ := cell_grown hg (hHeld.1) ((HO155.out.1 _ rfl).1.2)
   have HS1_ := cell_grown hg (hHeld.2) ((HO155.out.1 _ rfl).1.2)
   rw [← Ny164.out] at ho
   have n0_ := Aside0.mk (blk_grown (g := gb148) (o := .cells #[.int .i64 0, .int .i64 0, .int .i64 0, .int .i64 0, .int .i64 0] 83 (0, 0)) (r0_ BK148.out) hg (Kd.R_ne HO159.out BK148.out (by decide)))
   have n1_ := Aside0.mk (Kd.R_after (ok := (fun k_ => some k_ ≠ (.slice (some ad156) t153.length co18 : Value).ownBlock ∧ some k_ ≠ (.slice Ao23 t161.length co23 : Value).ownBlock)) (rk_ (Kd.R_mono HO151.out (fun _ hk => ⟨⟨hk.1.1.2, hk.2⟩, hk.1.2⟩))) hg hat)
   have n2_ := Aside0.mk (Kd.R_after (ok := (fun k_ => some k_ ≠ (.slice (some ad152) t149.length co16 : Value).ownBlock ∧ some k_ ≠ (.slice Ao23 t161.length co23 : Value).ownBlock)) (rk_ (Kd.R_mono HO155.out (fun _ hk => ⟨⟨hk.1.1.2, hk.2⟩, hk.1.2⟩))) hg hat)
   have n3_ := Aside0.mk (Kd.R_after (ok := (fun k_ => some k_ ≠ (.slice (some ad152) t149.length co16 : Value).ownBlock ∧ some k_ ≠ (.slice (some ad156) t153.length co18 : Value).ownBlock)) (rk_ (Kd.R_mono HO163.out (fun _ hk => ⟨⟨hk.1.1.2, hk.1.2⟩, hk.2⟩))) hg hat)
   have n4_ := Aside0.mk (hb)
   have n5_ := Aside0.mk (ho)
   clear BK148
   clear HO151
   clear HO155
   clear HO163
   clear HB
   clear HO159
   have BK148 := n0_
   have HO151 := n1_
   have HO155 := n2_
   have HO163 := n3_
   have HB := n4_
   have HO166 := n5_
   clear n0_ n1_ n2_ n3_ n4_ n5_
   clear ho hb hg hat
   obtain ⟨Ao24, co24, eo24⟩ := Kd.R_slice HO166.out
   (first | subst eo24 | (injection eo24 with f1_ f2_ f3_; have f4_ := f1_.symm; have f5_ := f3_.symm; clear f1_ f2_ f3_; subst f4_; subst f5_))
   refine hK.out _ _ ⟨HS0_, HS1_⟩ (fun hHeld => ?_)
   clear hK K
   refine norm_ (a' := ?_) ?_ ?_
   rotate_left
   ·show Act.put _ (some 33) _ = _
    simp only [pz_]
    rfl
   refine one_ (i := 9) (N := some 34) #[t_,t_,t_,t_,t_,t_,t_,t_,t_,t_,f_,f_,f_,f_,f_] rfl rfl (one_of HT_.out (by kernel_rfl)) (by decide) (fun K hK => ?_)
   refine goes_ Try.func157 (by kernel_rfl) rfl #[.slice Ao24 y164.length co24] (by rfl) rfl rfl ag_ ?_
   with_reducible refine (spec_l01Numbers.calls k _ _ y164 t167 t168 _ ?side1 ?side2 A12.out).mono ?_
   (case side1 => exact r13_ HO166.out)
   (case side2 => exact (Kd.R_reads' HO166.out).2.1)
   rintro e w25 ⟨v169, rfl, ho0, hb⟩
   have HS0_ := (hb.cell (World.block_lt_of_cell? _ _ (hHeld.1))).trans (hHeld.1)
   have HS1_ := (hb.cell (World.block_lt_of_cell? _ _ (hHeld.2))).trans (hHeld.2)
   refine ⟨_, rfl, ?_⟩
   replace HO151 := Aside0.mk (Kd.R_below (rk_ HO151.out) hb)
   replace HO155 := Aside0.mk (Kd.R_below (rk_ HO155.out) hb)
   replace HO163 := Aside0.mk (Kd.R_below (rk_ HO163.out) hb)
   replace HO166 := Aside0.mk (Kd.R_below (rk_ HO166.out) hb)
   have HO170 := Aside0.mk (Kd.R_lower ho0 (below_size (r1_ HB.out GE148.out)))
   replace BK148 := Aside0.mk (blk_below (g := gb148) (o := .cells #[.int .i64 0, .int .i64 0, .int .i64 0, .int .i64 0, .int .i64 0] 83 (0, 0)) (r0_ BK148.out) hb)
   replace HB := Aside0.mk (below_step (r1_ HB.out GE148.out) hb)
   (try clear hb)
   (try clear hb2)
   (try clear hk)
   (try clear hi)
   (try clear ho0)
   refine hK.out _ _ ⟨HS0_, HS1_⟩ (fun hHeld => ?_)
   clear hK K
   refine norm_ (a' := ?_) ?_ ?_
   rotate_left
   ·show Act.put _ (some 34) _ = _
    simp only [pz_]
    rfl
   refine pu_ 10 24 #[t_,t_,t_,t_,t_,t_,t_,t_,t_,t_,t_,f_,f_,f_,f_] HT_.out ?_
   refine pu_ 11 35 #[t_,t_,t_,t_,t_,t_,t_,t_,t_,t_,t_,t_,f_,f_,f_] HT_.out ?_
   refine pu_ 12 36 #[t_,t_,t_,t_,t_,t_,t_,t_,t_,t_,t_,t_,t_,f_,f_] HT_.out ?_
   refine pu_ 13 6 #[t_,t_,t_,t_,t_,t_,t_,t_,t_,t_,t_,t_,t_,t_,f_] HT_.out ?_
   refine pu_ 14 7 #[t_,t_,t_,t_,t_,t_,t_,t_,t_,t_,t_,t_,t_,t_,t_] HT_.out ?_
   refine done_ (done_of HT_.out (by kernel_rfl)) ?_
   go_upto_region 8 with (fail)
   go_cut [43] (fun v43 wc => ∃ (kq : Nat) (x43_12 : Bool), v43 = .bool x43_12 ∧ Aside0 (spec_ReadArea.j0 kq a0 t149 t167 x43_12 = some (r1, r2, r3, r4, r5, r6)) ∧ Aside0 (kq ≤ k) ∧ Aside0 (Kd.R Kd.string 9 wc w.heap.size (fun _ => True) (.slice (some ad152) t149.length co16) t149) ∧ Aside0 (Kd.R (Kd.int .i64) 2 wc w.heap.size (fun _ => True) v169 t167) ∧ Aside0 (wc.heap[gb148]? = some (.cells #[.int .i64 0, .int .i64 0, .int .i64 0, .int .i64 0, .int .i64 0] 83 (0, 0))) ∧ Aside0 (Below w.heap.size w wc))
   case first =>
    have H := HC13.out
    clear HC13
    by_cases c26 : t168 = true
    ·subst c26
     replace H : (spec_ReadArea.j0 k a0 t149 t167 ((t167.length : Int) != 4)) = some (r1, r2, r3, r4, r5, r6) := by rw [if_pos rfl] at H; exact H
     have H' := Aside0.mk H
     clear H
     obtain ⟨Ao27, co27, eo27⟩ := Kd.R_slice HO170.out
     subst eo27
     go_wp2
     go_meet
     case rel => exact ⟨_, (((t167.length : Int) != 4)), (by first | rfl | (simp; done) | (simp [*]; done)), H', ⟨by first | omega | exact Nat.le_refl _⟩, ⟨rk_ (Kd.R_mono HO151.out (fun _ hk => trivial))⟩, ⟨rk_ HO170.out⟩, ⟨r0_ BK148.out⟩, ⟨r1_ HB.out GE148.out⟩⟩
    ·replace c26 := Bool.eq_false_iff.mpr c26
     subst c26
     replace H : (spec_ReadArea.j0 k a0 t149 t167 true) = some (r1, r2, r3, r4, r5, r6) := by rw [if_neg (show ¬ (false = true) by decide)] at H; exact H
     have H' := Aside0.mk H
     clear H
     go_wp2
     go_meet
     case rel => exact ⟨_, (true), (by first | rfl | (simp; done) | (simp [*]; done)), H', ⟨by first | omega | exact Nat.le_refl _⟩, ⟨rk_ (Kd.R_mono HO151.out (fun _ hk => trivial))⟩, ⟨rk_ HO170.out⟩, ⟨r0_ BK148.out⟩, ⟨r1_ HB.out GE148.out⟩⟩
   case rest =>
    clear HC13
    try clear c1
    try clear p1
    try clear q1
    try clear hx1
    try clear qi1
    try clear c2
    try clear p2
    try clear c3
    try clear c3b0
    try clear c3b1
    try clear c4
    try clear c4b0
    try clear c4b1
    try clear c6
    try clear c6b0
    try clear c6b1
    try clear c7
    try clear c7b0
    try clear c7b1
    try clear c9
    try clear c9b0
    try clear c9b1
    try clear c11
    try clear c15
    try clear p15
    try clear q15
    try clear hx15
    try clear qi15
    try clear p16
    try clear q16
    try clear hx16
    try clear qi16
    try clear c26
    try clear hx152_0
    try clear hx156_0
    try clear hx160_0
    try clear p152
    try clear p156
    try clear p160
    try clear q152
    try clear q156
    try clear q160
    obtain ⟨kq, x43_12, rfl, HA, HJ12, HO_4, HO_6, BK148, HB⟩ := hcut
    cases kq with
    | zero => exact absurd HA.out (by simp [spec_ReadArea.j0])
    | succ kj12 =>
     have H := HA.out
     clear HA
     simp only [spec_ReadArea.j0] at H
     by_cases c28 : x43_12 = true
     ·subst c28
      replace H : (some (0, 0, 0, 0, 0, 6)) = some (r1, r2, r3, r4, r5, r6) := by rw [if_pos rfl] at H; exact H
      simp only [Option.some.injEq, Prod.mk.injEq] at H
      obtain ⟨rfl, rfl, rfl, rfl, rfl, rfl⟩ := H
      have hcz29_0 : wc.cell? ⟨gb148, 0, none⟩ = some (.int .i64 0) := (blk_cell BK148.out 0).trans rfl
      have hcz29_1 : wc.cell? ⟨gb148, 1, none⟩ = some (.int .i64 0) := (blk_cell BK148.out 1).trans rfl
      have hcz29_2 : wc.cell? ⟨gb148, 2, none⟩ = some (.int .i64 0) := (blk_cell BK148.out 2).trans rfl
      have hcz29_3 : wc.cell? ⟨gb148, 3, none⟩ = some (.int .i64 0) := (blk_cell BK148.out 3).trans rfl
      have hcz29_4 : wc.cell? ⟨gb148, 4, none⟩ = some (.int .i64 0) := (blk_cell BK148.out 4).trans rfl
      have hfz29_0 := blk_frozen BK148.out 0
      have hfz29_1 := blk_frozen BK148.out 1
      have hfz29_2 := blk_frozen BK148.out 2
      have hfz29_3 := blk_frozen BK148.out 3
      have hfz29_4 := blk_frozen BK148.out 4
      go_wp2
      refine bodyPost_ret (results_ct rfl _ _ gb148 83 #[.int .i64 0, .int .i64 0, .int .i64 0, .int .i64 0, .int .i64 0] (0, 0) _ rfl (r12_ BK148.out) Try.underlying83 rfl (by kernel_rfl)) rfl ?_
      exact ⟨by first | rfl | (simp [errW_none, errW_some] <;> rfl) | (simp [*, errW_none, errW_some] <;> rfl), r1_ HB.out GE148.out⟩
     ·replace c28 := Bool.eq_false_iff.mpr c28
      subst c28
      replace H : (if 0 < (t167.length : Int) then (if 1 < (t167.length : Int) then (if 2 < (t167.length : Int) then (if 3 < (t167.length : Int) then (spec_ReadArea.l0 kj12 a0 t149 0 (-1) (rd t167 0) (rd t167 1) (rd t167 2) (rd t167 3)) else (none)) else (none)) else (none)) else (none)) = some (r1, r2, r3, r4, r5, r6) := by rw [if_neg (show ¬ (false = true) by decide)] at H; exact H
      by_cases c30 : 0 < (t167.length : Int)
      case neg =>
       rw [if_neg c30] at H
       exact absurd H (by simp)
      rw [if_pos c30] at H
      have c30b0 : decide (0 < (t167.length : Int)) = true := decide_eq_true c30
      have c30b1 : decide (0 < t167.length) = true := decide_eq_true (by omega)
      clear c30
      by_cases c31 : 1 < (t167.length : Int)
      case neg =>
       rw [if_neg c31] at H
       exact absurd H (by simp)
      rw [if_pos c31] at H
      have c31b0 : decide (1 < (t167.length : Int)) = true := decide_eq_true c31
      have c31b1 : decide (1 < t167.length) = true := decide_eq_true (by omega)
      clear c31
      by_cases c32 : 2 < (t167.length : Int)
      case neg =>
       rw [if_neg c32] at H
       exact absurd H (by simp)
      rw [if_pos c32] at H
      have c32b0 : decide (2 < (t167.length : Int)) = true := decide_eq_true c32
      have c32b1 : decide (2 < t167.length) = true := decide_eq_true (by omega)
      clear c32
      by_cases c33 : 3 < (t167.length : Int)
      case neg =>
       rw [if_neg c33] at H
       exact absurd H (by simp)
      rw [if_pos c33] at H
      have c33b0 : decide (3 < (t167.length : Int)) = true := decide_eq_true c33
      have c33b1 : decide (3 < t167.length) = true := decide_eq_true (by omega)
      clear c33
      have H' := Aside0.mk H
      clear H
      try go_wp2
      replace HO_4 := Aside0.mk (Kd.R_drew HO_4.out)
      replace HO_6 := Aside0.mk (Kd.R_drew HO_6.out)
      replace BK148 := Aside0.mk (blk_drew BK148.out)
      replace HB := Aside0.mk (below_drew1 HB.out)
      obtain ⟨Ao35, co35, eo35⟩ := Kd.R_slice HO_6.out
      (first | subst eo35 | (injection eo35 with f1_ f2_ f3_; have f4_ := f1_.symm; have f5_ := f3_.symm; clear f1_ f2_ f3_; subst f4_; subst f5_))
      have p171 : 0 ≤ (0 : Int) := (by omega)
      have q171 : 0 < (t167.length : Int) := od_
      obtain ⟨ad171, e171, hx171_0⟩ := Kd.at_int (Kd.R_reads' HO_6.out).2.2 0 p171 q171
      cases e171
      have qi171 : (0 < t167.length) = True := eq_true (by omega)
      (try rw [show ((0 : Int)).toNat = 0 from rfl] at hx171_0)
      (try rw [Addr.add_zero'] at hx171_0)
      replace p171 := eq_true p171
      replace q171 := eq_true q171
      have p172 : 0 ≤ (1 : Int) := (by omega)
      have q172 : 1 < (t167.length : Int) := od_
      obtain ⟨ad172, e172, hx172_0⟩ := Kd.at_int (Kd.R_reads' HO_6.out).2.2 1 p172 q172
      obtain rfl : ad171 = ad172 := (by injection e172)
      (try simp only [show (1 : Int).toNat = 1 from rfl, Nat.reduceMul, Nat.reduceEqDiff, Go.Addr.add, ↓reduceIte] at hx172_0)
      have qi172 : (1 < t167.length) = True := eq_true (by omega)
      (try rw [show ((1 : Int)).toNat = 1 from rfl] at hx172_0)
      replace p172 := eq_true p172
      replace q172 := eq_true q172
      have p173 : 0 ≤ (2 : Int) := (by omega)
      have q173 : 2 < (t167.length : Int) := od_
      obtain ⟨ad173, e173, hx173_0⟩ := Kd.at_int (Kd.R_reads' HO_6.out).2.2 2 p173 q173
      obtain rfl : ad171 = ad173 := (by injection e173)
      (try simp only [show (2 : Int).toNat = 2 from rfl, Nat.reduceMul, Nat.reduceEqDiff, Go.Addr.add, ↓reduceIte] at hx173_0)
      have qi173 : (2 < t167.length) = True := eq_true (by omega)
      (try rw [show ((2 : Int)).toNat = 2 from rfl] at hx173_0)
      replace p173 := eq_true p173
      replace q173 := eq_true q173
      have p174 : 0 ≤ (3 : Int) := (by omega)
      have q174 : 3 < (t167.length : Int) := od_
      obtain ⟨ad174, e174, hx174_0⟩ := Kd.at_int (Kd.R_reads' HO_6.out).2.2 3 p174 q174
      obtain rfl : ad171 = ad174 := (by injection e174)
      (try simp only [show (3 : Int).toNat = 3 from rfl, Nat.reduceMul, Nat.reduceEqDiff, Go.Addr.add, ↓reduceIte] at hx174_0)
      have qi174 : (3 < t167.length) = True := eq_true (by omega)
      (try rw [show ((3 : Int)).toNat = 3 from rfl] at hx174_0)
      replace p174 := eq_true p174
      replace q174 := eq_true q174
      refine start_ (n := 15) (S := fun w' => w'.cell? ad171 = some (.int .i64 (rd t167 0)) ∧ w'.cell? ⟨ad171.block, ad171.off + 1, none⟩ = some (.int .i64 (rd t167 1)) ∧ w'.cell? ⟨ad171.block, ad171.off + 2, none⟩ = some (.int .i64 (rd t167 2)) ∧ w'.cell? ⟨ad171.block, ad171.off + 3, none⟩ = some (.int .i64 (rd t167 3))) (ds := []) #[f_,f_,f_,f_,f_,f_,f_,f_,f_,f_,f_,f_,f_,f_,f_] (by kernel_rfl) rfl rfl ⟨hx171_0, hx172_0, hx173_0, hx174_0⟩ (fun hHeld => ?_); refine with_tabW spec_ReadArea.tab10 spec_ReadArea.bits10 (fun HT_ HW_ => ?_)
      generalize wc.drew = w34 at HO_4 HO_6 BK148 HB hx171_0 hx172_0 hx173_0 hx174_0 hHeld ⊢
      refine pu_ 0 45 #[t_,f_,f_,f_,f_,f_,f_,f_,f_,f_,f_,f_,f_,f_,f_] HT_.out ?_
      refine pu_ 1 46 #[t_,t_,f_,f_,f_,f_,f_,f_,f_,f_,f_,f_,f_,f_,f_] HT_.out ?_
      refine pu_ 3 48 #[t_,t_,f_,t_,f_,f_,f_,f_,f_,f_,f_,f_,f_,f_,f_] HT_.out ?_
      refine pu_ 4 49 #[t_,t_,f_,t_,t_,f_,f_,f_,f_,f_,f_,f_,f_,f_,f_] HT_.out ?_
      refine pu_ 6 51 #[t_,t_,f_,t_,t_,f_,t_,f_,f_,f_,f_,f_,f_,f_,f_] HT_.out ?_
      refine pu_ 7 52 #[t_,t_,f_,t_,t_,f_,t_,t_,f_,f_,f_,f_,f_,f_,f_] HT_.out ?_
      refine pu_ 9 54 #[t_,t_,f_,t_,t_,f_,t_,t_,f_,t_,f_,f_,f_,f_,f_] HT_.out ?_
      refine pu_ 10 55 #[t_,t_,f_,t_,t_,f_,t_,t_,f_,t_,t_,f_,f_,f_,f_] HT_.out ?_
      refine take_ (i := 2) (N := some 47) (v := ?_) (a' := ?_) #[t_,t_,t_,t_,t_,f_,t_,t_,f_,t_,t_,f_,f_,f_,f_] rfl rfl (take_ofW HT_.out HW_.out (by kernel_rfl)) (fun _ _ _ h => h) (Or.inl ⟨by rfl, ?_⟩) hHeld ?_ ?_
      rotate_left
      ·rintro w' ⟨s0, s1, s2, s3⟩
       go_simp
       with_reducible rfl
      rotate_left
      ·simp only [pz_]
       rfl
      refine take_ (i := 5) (N := some 50) (v := ?_) (a' := ?_) #[t_,t_,t_,t_,t_,t_,t_,t_,f_,t_,t_,f_,f_,f_,f_] rfl rfl (take_ofW HT_.out HW_.out (by kernel_rfl)) (fun _ _ _ h => h) (Or.inl ⟨by rfl, ?_⟩) hHeld ?_ ?_
      rotate_left
      ·rintro w' ⟨s0, s1, s2, s3⟩
       go_simp
       with_reducible rfl
      rotate_left
      ·simp only [pz_]
       rfl
      refine take_ (i := 8) (N := some 53) (v := ?_) (a' := ?_) #[t_,t_,t_,t_,t_,t_,t_,t_,t_,t_,t_,f_,f_,f_,f_] rfl rfl (take_ofW HT_.out HW_.out (by kernel_rfl)) (fun _ _ _ h => h) (Or.inl ⟨by rfl, ?_⟩) hHeld ?_ ?_
      rotate_left
      ·rintro w' ⟨s0, s1, s2, s3⟩
       go_simp
       with_reducible rfl
      rotate_left
      ·simp only [pz_]
       rfl
      refine take_ (i := 11) (N := some 56) (v := ?_) (a' := ?_) #[t_,t_,t_,t_,t_,t_,t_,t_,t_,t_,t_,t_,f_,f_,f_] rfl rfl (take_ofW HT_.out HW_.out (by kernel_rfl)) (fun _ _ _ h => h) (Or.inl ⟨by rfl, ?_⟩) hHeld ?_ ?_
      rotate_left
      ·rintro w' ⟨s0, s1, s2, s3⟩
       go_simp
       with_reducible rfl
      rotate_left
      ·simp only [pz_]
       rfl
      refine pu_ 12 57 #[t_,t_,t_,t_,t_,t_,t_,t_,t_,t_,t_,t_,t_,f_,f_] HT_.out ?_
      refine one_ (i := 13) (N := some 8) #[t_,t_,t_,t_,t_,t_,t_,t_,t_,t_,t_,t_,t_,t_,f_] rfl rfl (one_of HT_.out (by kernel_rfl)) (by decide) (fun K hK => ?_)
      refine box_step ?hg (N := 8) ?hd (cs := #[.int .i64 0, .int .i64 0, .int .i64 0, .int .i64 0, .int .i64 0]) (t := 83) ?hr ?_; (case hd => rfl); (case hg => rfl); (case hr => first | (go_simp; done) | (go_simp; rfl))
      intro gb175 hg w36 hbox hb
      have HS0_ := (hb.cell (World.block_lt_of_cell? _ _ (hHeld.1))).trans (hHeld.1)
      have HS1_ := (hb.cell (World.block_lt_of_cell? _ _ (hHeld.2.1))).trans (hHeld.2.1)
      have HS2_ := (hb.cell (World.block_lt_of_cell? _ _ (hHeld.2.2.1))).trans (hHeld.2.2.1)
      have HS3_ := (hb.cell (World.block_lt_of_cell? _ _ (hHeld.2.2.2))).trans (hHeld.2.2.2)
      replace HO_4 := Aside0.mk (Kd.R_below (rk_ HO_4.out) hb)
      replace HO_6 := Aside0.mk (Kd.R_below (rk_ HO_6.out) hb)
      have BK175 := Aside0.mk (hbox)
      have GW175 := Aside0.mk ((by rw [hg]; exact (below_size (r1_ HB.out GE148.out)) : w.heap.size ≤ gb175))
      have GE175 := Aside0.mk ((by rw [hg]; exact (below_size (r1_ HB.out GE148.out)) : w.heap.size ≤ gb175))
      replace HB := Aside0.mk (below_step (r1_ HB.out GE148.out) hb)
      have NB148_175 := Aside0.mk ((by rw [hg]; exact Nat.ne_of_lt (blk_lt (g := gb148) (o := .cells #[.int .i64 0, .int .i64 0, .int .i64 0, .int .i64 0, .int .i64 0] 83 (0, 0)) (r0_ BK148.out)) : gb148 ≠ gb175))
      have NB175_148 := Aside0.mk ((by rw [hg]; exact Nat.ne_of_gt (blk_lt (g := gb148) (o := .cells #[.int .i64 0, .int .i64 0, .int .i64 0, .int .i64 0, .int .i64 0] 83 (0, 0)) (r0_ BK148.out)) : gb175 ≠ gb148))
      replace BK148 := Aside0.mk (blk_below (g := gb148) (o := .cells #[.int .i64 0, .int .i64 0, .int .i64 0, .int .i64 0, .int .i64 0] 83 (0, 0)) (r0_ BK148.out) hb)
      clear hb hbox hg
      refine hK.out _ _ ⟨HS0_, HS1_, HS2_, HS3_⟩ (fun hHeld => ?_)
      clear hK K
      refine norm_ (a' := ?_) ?_ ?_
      rotate_left
      ·show Act.put _ (some 8) _ = _
       simp only [pz_]
       rfl
      refine one_ (i := 14) (N := none) #[t_,t_,t_,t_,t_,t_,t_,t_,t_,t_,t_,t_,t_,t_,t_] rfl rfl (one_of HT_.out (by kernel_rfl)) (by decide) (fun K hK => ?_)
      have hs37 : w36.cell? ⟨gb175, 0, none⟩ = some (.int .i64 0) := (blk_cell BK175.out 0).trans rfl
      have hfs37 := blk_frozen BK175.out 0
      have hns37_0 := NB148_175.out
      have hms37_0 := NB175_148.out
      have hs38 : w36.cell? ⟨gb175, 1, none⟩ = some (.int .i64 0) := (blk_cell BK175.out 1).trans rfl
      have hfs38 := blk_frozen BK175.out 1
      have hns38_0 := NB148_175.out
      have hms38_0 := NB175_148.out
      have hs39 : w36.cell? ⟨gb175, 2, none⟩ = some (.int .i64 0) := (blk_cell BK175.out 2).trans rfl
      have hfs39 := blk_frozen BK175.out 2
      have hns39_0 := NB148_175.out
      have hms39_0 := NB175_148.out
      have hs40 : w36.cell? ⟨gb175, 3, none⟩ = some (.int .i64 0) := (blk_cell BK175.out 3).trans rfl
      have hfs40 := blk_frozen BK175.out 3
      have hns40_0 := NB148_175.out
      have hms40_0 := NB175_148.out
      have hs41 : w36.cell? ⟨gb175, 4, none⟩ = some (.int .i64 0) := (blk_cell BK175.out 4).trans rfl
      have hfs41 := blk_frozen BK175.out 4
      have hns41_0 := NB148_175.out
      have hms41_0 := NB175_148.out
      refine skip_ (w1 := ?_) (by rfl) rfl ?_ ?_
      rotate_left
      ·go_simp
       rfl
      have hne_ : ad171.block ≠ gb175 := Kd.own_blk (Kd.R_ne HO_6.out BK175.out (by decide))
      refine hK.out _ _ ⟨(cell_far5_ (a := ad171) hne_ _ _ _ _ _).trans hHeld.1, (cell_far5_ (a := ⟨ad171.block, ad171.off + 1, none⟩) hne_ _ _ _ _ _).trans hHeld.2.1, (cell_far5_ (a := ⟨ad171.block, ad171.off + 2, none⟩) hne_ _ _ _ _ _).trans hHeld.2.2.1, (cell_far5_ (a := ⟨ad171.block, ad171.off + 3, none⟩) hne_ _ _ _ _ _).trans hHeld.2.2.2⟩ (fun hHeld => ?_)
      clear hK K
      refine done_ (done_of HT_.out (by kernel_rfl)) ?_
      try go_wp2
      go_loopg [9] kj12 (fun kq v9 w' => ∃ (x9_2 : Int) (x176000_2 : Int), v9 = .int .i64 x9_2 ∧ Aside0 (spec_ReadArea.l0 kq a0 t149 x9_2 x176000_2 (rd t167 0) (rd t167 1) (rd t167 2) (rd t167 3) = some (r1, r2, r3, r4, r5, r6)) ∧ Aside0 (kq ≤ kj12) ∧ Aside0 (Kd.R Kd.string 9 w' w.heap.size (fun _ => True) (.slice (some ad152) t149.length co16) t149) ∧ Aside0 (w'.heap[gb148]? = some (.cells #[.int .i64 0, .int .i64 0, .int .i64 0, .int .i64 0, .int .i64 0] 83 (0, 0))) ∧ Aside0 (w'.heap[gb175]? = some (.cells #[.int .i64 x176000_2, .int .i64 (rd t167 0), .int .i64 (rd t167 1), .int .i64 (rd t167 2), .int .i64 (rd t167 3)] 83 (0, 0))) ∧ Aside0 (Below w.heap.size w w'))
      case atStart => exact ⟨(0), ((-1)), (by first | rfl | (simp; done) | (simp [*]; done)), H', ⟨Nat.le_refl _⟩, ⟨rk_ (Kd.R_mono (Kd.R_far (p := ⟨gb175, 4, none⟩) (Kd.R_far (p := ⟨gb175, 3, none⟩) (Kd.R_far (p := ⟨gb175, 2, none⟩) (Kd.R_far (p := ⟨gb175, 1, none⟩) (Kd.R_far (p := ⟨gb175, 0, none⟩) (Kd.R_types HO_4.out BK175.out (by decide)) (fun _ hk => hk.2) (.int .i64 (-1))) (fun _ hk => hk.2) (.int .i64 (rd t167 0))) (fun _ hk => hk.2) (.int .i64 (rd t167 1))) (fun _ hk => hk.2) (.int .i64 (rd t167 2))) (fun _ hk => hk.2) (.int .i64 (rd t167 3))) (fun _ hk => trivial))⟩, ⟨r11_ NB148_175.out BK148.out⟩, ⟨by (with_reducible repeat (first | refine blk_drewN ?_ _ | refine blk_drew ?_ | refine blk_alloc ?_ _)); refine blk_put (cs := #[.int .i64 (-1), .int .i64 (rd t167 0), .int .i64 (rd t167 1), .int .i64 (rd t167 2), .int .i64 0]) ?_ 4 _ rfl; (with_reducible repeat (first | refine blk_drewN ?_ _ | refine blk_drew ?_ | refine blk_alloc ?_ _)); refine blk_put (cs := #[.int .i64 (-1), .int .i64 (rd t167 0), .int .i64 (rd t167 1), .int .i64 0, .int .i64 0]) ?_ 3 _ rfl; (with_reducible repeat (first | refine blk_drewN ?_ _ | refine blk_drew ?_ | refine blk_alloc ?_ _)); refine blk_put (cs := #[.int .i64 (-1), .int .i64 (rd t167 0), .int .i64 0, .int .i64 0, .int .i64 0]) ?_ 2 _ rfl; (with_reducible repeat (first | refine blk_drewN ?_ _ | refine blk_drew ?_ | refine blk_alloc ?_ _)); refine blk_put (cs := #[.int .i64 (-1), .int .i64 0, .int .i64 0, .int .i64 0, .int .i64 0]) ?_ 1 _ rfl; (with_reducible repeat (first | refine blk_drewN ?_ _ | refine blk_drew ?_ | refine blk_alloc ?_ _)); refine blk_put (cs := #[.int .i64 0, .int .i64 0, .int .i64 0, .int .i64 0, .int .i64 0]) ?_ 0 _ rfl; (with_reducible repeat (first | refine blk_drewN ?_ _ | refine blk_drew ?_ | refine blk_alloc ?_ _)); exact BK175.out⟩, ⟨r5_ HB.out GE148.out GE175.out⟩⟩
      case round =>
       clear H'
       try clear c1
       try clear p1
       try clear q1
       try clear hx1
       try clear qi1
       try clear c2
       try clear p2
       try clear c3
       try clear c3b0
       try clear c3b1
       try clear c4
       try clear c4b0
       try clear c4b1
       try clear c6
       try clear c6b0
       try clear c6b1
       try clear c7
       try clear c7b0
       try clear c7b1
       try clear c9
       try clear c9b0
       try clear c9b1
       try clear c11
       try clear c15
       try clear p15
       try clear q15
       try clear hx15
       try clear qi15
       try clear p16
       try clear q16
       try clear hx16
       try clear qi16
       try clear p17
       try clear q17
       try clear hx17
       try clear qi17
       try clear c26
       try clear c28
       try clear c30
       try clear c30b0
       try clear c30b1
       try clear c31
       try clear c31b0
       try clear c31b1
       try clear c32
       try clear c32b0
       try clear c32b1
       try clear c33
       try clear c33b0
       try clear c33b1
       try clear hcz29_0
       try clear hcz29_1
       try clear hcz29_2
       try clear hcz29_3
       try clear hcz29_4
       try clear hfz29_0
       try clear hfz29_1
       try clear hfz29_2
       try clear hfz29_3
       try clear hfz29_4
       try clear hx152_0
       try clear hx156_0
       try clear hx160_0
       try clear hx171_0
       try clear hx172_0
       try clear hx173_0
       try clear hx174_0
       try clear p1
       try clear p15
       try clear p152
       try clear p156
       try clear p16
       try clear p160
       try clear p171
       try clear p172
       try clear p173
       try clear p174
       try clear p2
       try clear q1
       try clear q15
       try clear q152
       try clear q156
       try clear q16
       try clear q160
       try clear q171
       try clear q172
       try clear q173
       try clear q174
       obtain ⟨x9_2, x176000_2, rfl, HA, HK2, HO_4, BK148, BK175, HB⟩ := hrel
       cases gk with
       | zero => exact absurd HA.out (by simp [spec_ReadArea.l0])
       | succ k2 =>
        have H := HA.out
        clear HA
        simp only [spec_ReadArea.l0] at H
        by_cases c42 : x9_2 < 4
        ·rw [if_pos c42] at H
         have c42b0 : decide (x9_2 < 4) = true := decide_eq_true c42
         clear c42
         replace H := Option.bind_eq_some_iff.mp H
         obtain ⟨t176, A430, H⟩ := H
         replace H : (if 0 < (t149.length : Int) then (if t176.toList = (rdOf ByteArray.empty t149 0).toList then (spec_ReadArea.l0 k2 a0 t149 (wrap64 (x9_2 + 1)) x9_2 (rd t167 0) (rd t167 1) (rd t167 2) (rd t167 3)) else (spec_ReadArea.l0 k2 a0 t149 (wrap64 (x9_2 + 1)) x176000_2 (rd t167 0) (rd t167 1) (rd t167 2) (rd t167 3))) else (none)) = some (r1, r2, r3, r4, r5, r6) := H
         have A43 := Aside0.mk A430
         clear A430
         by_cases c44 : 0 < (t149.length : Int)
         case neg =>
          rw [if_neg c44] at H
          exact absurd H (by simp)
         rw [if_pos c44] at H
         have c44b0 : decide (0 < (t149.length : Int)) = true := decide_eq_true c44
         have c44b1 : decide (0 < t149.length) = true := decide_eq_true (by omega)
         clear c44
         by_cases c45 : t176.toList = (rdOf ByteArray.empty t149 0).toList
         ·rw [if_pos c45] at H
          have c45b0 : (t176.toList == (rdOf ByteArray.empty t149 0).toList) = true := beq_iff_eq.mpr c45
          have c45b1 : (t176.toList != (rdOf ByteArray.empty t149 0).toList) = false := bne_eq_false_iff_eq.mpr c45
          clear c45
          have H' := Aside0.mk H
          clear H
          try go_wp2
          replace HO_4 := Aside0.mk (Kd.R_drew HO_4.out)
          replace BK148 := Aside0.mk (blk_drew BK148.out)
          replace BK175 := Aside0.mk (blk_drew BK175.out)
          replace HB := Aside0.mk (below_drew1 HB.out)
          have p177 : 0 ≤ (0 : Int) := (by omega)
          have q177 : 0 < (t149.length : Int) := od_
          obtain ⟨ad177, e177, hx177_0⟩ := Kd.at_string (Kd.R_reads' HO_4.out).2.2 0 p177 q177
          obtain rfl : ad152 = ad177 := (by injection e177)
          have qi177 : (0 < t149.length) = True := eq_true (by omega)
          (try rw [show ((0 : Int)).toNat = 0 from rfl] at hx177_0)
          (try rw [Addr.add_zero'] at hx177_0)
          replace p177 := eq_true p177
          replace q177 := eq_true q177
          refine start_ (n := 6) (S := fun w' => w'.cell? ad152 = some (.string (rdOf ByteArray.empty t149 0))) (ds := []) #[f_,f_,f_,f_,f_,f_] (by kernel_rfl) rfl rfl (hx177_0) (fun hHeld => ?_)
          generalize wr.drew = w46 at HO_4 BK148 BK175 HB hx177_0 hHeld ⊢
          refine pure_ (i := 0) (N := some 62) (v := ?_) (a' := ?_) #[t_,f_,f_,f_,f_,f_] rfl rfl (by kernel_rfl) (fun _ _ _ h => h) (Or.inl ⟨by rfl, ?_⟩) ?_ ?_
          rotate_left
          ·intro w'
           go_simp
           with_reducible rfl
          rotate_left
          ·simp only [pz_]
           rfl
          refine pure_ (i := 2) (N := some 64) (v := ?_) (a' := ?_) #[t_,f_,t_,f_,f_,f_] rfl rfl (by kernel_rfl) (fun _ _ _ h => h) (Or.inl ⟨by rfl, ?_⟩) ?_ ?_
          rotate_left
          ·intro w'
           go_simp
           with_reducible rfl
          rotate_left
          ·simp only [pz_]
           rfl
          refine pure_ (i := 3) (N := some 65) (v := ?_) (a' := ?_) #[t_,f_,t_,t_,f_,f_] rfl rfl (by kernel_rfl) (fun _ _ _ h => h) (Or.inl ⟨by rfl, ?_⟩) ?_ ?_
          rotate_left
          ·intro w'
           go_simp
           with_reducible rfl
          rotate_left
          ·simp only [pz_]
           rfl
          refine take_ (i := 4) (N := some 66) (v := ?_) (a' := ?_) #[t_,f_,t_,t_,t_,f_] rfl rfl (by kernel_rfl) (fun _ _ _ h => h) (Or.inl ⟨by rfl, ?_⟩) hHeld ?_ ?_
          rotate_left
          ·intro w' s0
           go_simp
           with_reducible rfl
          rotate_left
          ·simp only [pz_]
           rfl
          refine one_ (i := 1) (N := some 63) #[t_,t_,t_,t_,t_,f_] rfl rfl (by kernel_rfl) (by decide) (fun K hK => ?_)
          refine goes_ Try.func158 (by kernel_rfl) rfl #[.int .i64 x9_2] (by rfl) rfl rfl ag_ ?_
          with_reducible refine (spec_l15Word.calls x9_2 t176 _ A43.out).mono ?_
          rintro e w47 ⟨rfl, hb⟩
          have HS0_ := (hb.cell (World.block_lt_of_cell? _ _ (hHeld))).trans (hHeld)
          refine ⟨_, rfl, ?_⟩
          replace HO_4 := Aside0.mk (Kd.R_below (rk_ HO_4.out) hb)
          replace BK148 := Aside0.mk (blk_below (g := gb148) (o := .cells #[.int .i64 0, .int .i64 0, .int .i64 0, .int .i64 0, .int .i64 0] 83 (0, 0)) (r0_ BK148.out) hb)
          replace BK175 := Aside0.mk (blk_below (g := gb175) (o := .cells #[.int .i64 x176000_2, .int .i64 (rd t167 0), .int .i64 (rd t167 1), .int .i64 (rd t167 2), .int .i64 (rd t167 3)] 83 (0, 0)) (r0_ BK175.out) hb)
          replace HB := Aside0.mk (below_step (r5_ HB.out GE148.out GE175.out) hb)
          (try clear hb)
          (try clear hb2)
          (try clear hk)
          (try clear hi)
          refine hK.out _ _ (HS0_) (fun hHeld => ?_)
          clear hK K
          refine norm_ (a' := ?_) ?_ ?_
          rotate_left
          ·show Act.put _ (some 63) _ = _
           simp only [pz_]
           rfl
          refine pure_ (i := 5) (N := some 67) (v := ?_) (a' := ?_) #[t_,t_,t_,t_,t_,t_] rfl rfl (by kernel_rfl) (fun _ _ _ h => h) (Or.inl ⟨by rfl, ?_⟩) ?_ ?_
          rotate_left
          ·intro w'
           go_simp
           with_reducible rfl
          rotate_left
          ·simp only [pz_]
           rfl
          refine done_ (by kernel_rfl) ?_
          have hnb48 := NB175_148.out
          have hnc48 := NB148_175.out
          have hcz49_0 : w47.cell? ⟨gb175, 0, none⟩ = some (.int .i64 x176000_2) := (blk_cell BK175.out 0).trans rfl
          have hcz49_1 : w47.cell? ⟨gb175, 1, none⟩ = some (.int .i64 (rd t167 0)) := (blk_cell BK175.out 1).trans rfl
          have hcz49_2 : w47.cell? ⟨gb175, 2, none⟩ = some (.int .i64 (rd t167 1)) := (blk_cell BK175.out 2).trans rfl
          have hcz49_3 : w47.cell? ⟨gb175, 3, none⟩ = some (.int .i64 (rd t167 2)) := (blk_cell BK175.out 3).trans rfl
          have hcz49_4 : w47.cell? ⟨gb175, 4, none⟩ = some (.int .i64 (rd t167 3)) := (blk_cell BK175.out 4).trans rfl
          have hfz49_0 := blk_frozen BK175.out 0
          have hfz49_1 := blk_frozen BK175.out 1
          have hfz49_2 := blk_frozen BK175.out 2
          have hfz49_3 := blk_frozen BK175.out 3
          have hfz49_4 := blk_frozen BK175.out 4
          try go_wp2
          go_roundg k2
          case measure => have := HJ12.out; have := HK2.out; omega
          case rel => exact ⟨(wrap64 (x9_2 + 1)), (x9_2), (by first | rfl | (simp; done) | (simp [*]; done)), H', ⟨by have := HJ12.out; have := HK2.out; omega⟩, ⟨rk_ (Kd.R_mono (Kd.R_far (p := ⟨gb175, 0, none⟩) (Kd.R_types HO_4.out BK175.out (by decide)) (fun _ hk => hk.2) (.int .i64 x9_2)) (fun _ hk => trivial))⟩, ⟨by (with_reducible repeat (first | refine blk_drewN ?_ _ | refine blk_drew ?_ | refine blk_alloc ?_ _)); refine blk_far ?_ NB148_175.out _; (with_reducible repeat (first | refine blk_drewN ?_ _ | refine blk_drew ?_ | refine blk_alloc ?_ _)); exact BK148.out⟩, ⟨by (with_reducible repeat (first | refine blk_drewN ?_ _ | refine blk_drew ?_ | refine blk_alloc ?_ _)); refine blk_put (cs := #[.int .i64 x176000_2, .int .i64 (rd t167 0), .int .i64 (rd t167 1), .int .i64 (rd t167 2), .int .i64 (rd t167 3)]) ?_ 0 _ rfl; (with_reducible repeat (first | refine blk_drewN ?_ _ | refine blk_drew ?_ | refine blk_alloc ?_ _)); exact BK175.out⟩, ⟨r5_ HB.out GE148.out GE175.out⟩⟩
         ·rw [if_neg c45] at H
          have c45b0 : (t176.toList == (rdOf ByteArray.empty t149 0).toList) = false := beq_eq_false_iff_ne.mpr c45
          have c45b1 : (t176.toList != (rdOf ByteArray.empty t149 0).toList) = true := bne_iff_ne.mpr c45
          have H' := Aside0.mk H
          clear H
          try go_wp2
          replace HO_4 := Aside0.mk (Kd.R_drew HO_4.out)
          replace BK148 := Aside0.mk (blk_drew BK148.out)
          replace BK175 := Aside0.mk (blk_drew BK175.out)
          replace HB := Aside0.mk (below_drew1 HB.out)
          have p177 : 0 ≤ (0 : Int) := (by omega)
          have q177 : 0 < (t149.length : Int) := od_
          obtain ⟨ad177, e177, hx177_0⟩ := Kd.at_string (Kd.R_reads' HO_4.out).2.2 0 p177 q177
          obtain rfl : ad152 = ad177 := (by injection e177)
          have qi177 : (0 < t149.length) = True := eq_true (by omega)
          (try rw [show ((0 : Int)).toNat = 0 from rfl] at hx177_0)
          (try rw [Addr.add_zero'] at hx177_0)
          replace p177 := eq_true p177
          replace q177 := eq_true q177
          refine start_ (n := 6) (S := fun w' => w'.cell? ad152 = some (.string (rdOf ByteArray.empty t149 0))) (ds := []) #[f_,f_,f_,f_,f_,f_] (by kernel_rfl) rfl rfl (hx177_0) (fun hHeld => ?_)
          generalize wr.drew = w50 at HO_4 BK148 BK175 HB hx177_0 hHeld ⊢
          refine pure_ (i := 0) (N := some 62) (v := ?_) (a' := ?_) #[t_,f_,f_,f_,f_,f_] rfl rfl (by kernel_rfl) (fun _ _ _ h => h) (Or.inl ⟨by rfl, ?_⟩) ?_ ?_
          rotate_left
          ·intro w'
           go_simp
           with_reducible rfl
          rotate_left
          ·simp only [pz_]
           rfl
          refine pure_ (i := 2) (N := some 64) (v := ?_) (a' := ?_) #[t_,f_,t_,f_,f_,f_] rfl rfl (by kernel_rfl) (fun _ _ _ h => h) (Or.inl ⟨by rfl, ?_⟩) ?_ ?_
          rotate_left
          ·intro w'
           go_simp
           with_reducible rfl
          rotate_left
          ·simp only [pz_]
           rfl
          refine pure_ (i := 3) (N := some 65) (v := ?_) (a' := ?_) #[t_,f_,t_,t_,f_,f_] rfl rfl (by kernel_rfl) (fun _ _ _ h => h) (Or.inl ⟨by rfl, ?_⟩) ?_ ?_
          rotate_left
          ·intro w'
           go_simp
           with_reducible rfl
          rotate_left
          ·simp only [pz_]
           rfl
          refine take_ (i := 4) (N := some 66) (v := ?_) (a' := ?_) #[t_,f_,t_,t_,t_,f_] rfl rfl (by kernel_rfl) (fun _ _ _ h => h) (Or.inl ⟨by rfl, ?_⟩) hHeld ?_ ?_
          rotate_left
          ·intro w' s0
           go_simp
           with_reducible rfl
          rotate_left
          ·simp only [pz_]
           rfl
          refine one_ (i := 1) (N := some 63) #[t_,t_,t_,t_,t_,f_] rfl rfl (by kernel_rfl) (by decide) (fun K hK => ?_)
          refine goes_ Try.func158 (by kernel_rfl) rfl #[.int .i64 x9_2] (by rfl) rfl rfl ag_ ?_
          with_reducible refine (spec_l15Word.calls x9_2 t176 _ A43.out).mono ?_
          rintro e w51 ⟨rfl, hb⟩
          have HS0_ := (hb.cell (World.block_lt_of_cell? _ _ (hHeld))).trans (hHeld)
          refine ⟨_, rfl, ?_⟩
          replace HO_4 := Aside0.mk (Kd.R_below (rk_ HO_4.out) hb)
          replace BK148 := Aside0.mk (blk_below (g := gb148) (o := .cells #[.int .i64 0, .int .i64 0, .int .i64 0, .int .i64 0, .int .i64 0] 83 (0, 0)) (r0_ BK148.out) hb)
          replace BK175 := Aside0.mk (blk_below (g := gb175) (o := .cells #[.int .i64 x176000_2, .int .i64 (rd t167 0), .int .i64 (rd t167 1), .int .i64 (rd t167 2), .int .i64 (rd t167 3)] 83 (0, 0)) (r0_ BK175.out) hb)
          replace HB := Aside0.mk (below_step (r5_ HB.out GE148.out GE175.out) hb)
          (try clear hb)
          (try clear hb2)
          (try clear hk)
          (try clear hi)
          refine hK.out _ _ (HS0_) (fun hHeld => ?_)
          clear hK K
          refine norm_ (a' := ?_) ?_ ?_
          rotate_left
          ·show Act.put _ (some 63) _ = _
           simp only [pz_]
           rfl
          refine pure_ (i := 5) (N := some 67) (v := ?_) (a' := ?_) #[t_,t_,t_,t_,t_,t_] rfl rfl (by kernel_rfl) (fun _ _ _ h => h) (Or.inl ⟨by rfl, ?_⟩) ?_ ?_
          rotate_left
          ·intro w'
           go_simp
           with_reducible rfl
          rotate_left
          ·simp only [pz_]
           rfl
          refine done_ (by kernel_rfl) ?_
          try go_wp2
          go_roundg k2
          case measure => have := HJ12.out; have := HK2.out; omega
          case rel => exact ⟨(wrap64 (x9_2 + 1)), (x176000_2), (by first | rfl | (simp; done) | (simp [*]; done)), H', ⟨by have := HJ12.out; have := HK2.out; omega⟩, ⟨rk_ HO_4.out⟩, ⟨r0_ BK148.out⟩, ⟨r0_ BK175.out⟩, ⟨r5_ HB.out GE148.out GE175.out⟩⟩
        ·rw [if_neg c42] at H
         have c42b0 : decide (x9_2 < 4) = false := decide_eq_false c42
         clear c42
         replace H := Option.bind_eq_some_iff.mp H
         obtain ⟨t178, A520, H⟩ := H
         replace H : (if t178 = true then ((spec_l15Text.f k2 x176000_2 (rd t167 0) (rd t167 1) (rd t167 2) (rd t167 3)).bind fun t179 => (if t179.toList = a0.toList then (some (x176000_2, (rd t167 0), (rd t167 1), (rd t167 2), (rd t167 3), 0)) else (some (0, 0, 0, 0, 0, 6)))) else (some (0, 0, 0, 0, 0, 6))) = some (r1, r2, r3, r4, r5, r6) := H
         have A52 := Aside0.mk A520
         clear A520
         by_cases c53 : t178 = true
         ·subst c53
          replace H : ((spec_l15Text.f k2 x176000_2 (rd t167 0) (rd t167 1) (rd t167 2) (rd t167 3)).bind fun t179 => (if t179.toList = a0.toList then (some (x176000_2, (rd t167 0), (rd t167 1), (rd t167 2), (rd t167 3), 0)) else (some (0, 0, 0, 0, 0, 6)))) = some (r1, r2, r3, r4, r5, r6) := by rw [if_pos rfl] at H; exact H
          replace H := Option.bind_eq_some_iff.mp H
          obtain ⟨t179, A540, H⟩ := H
          replace H : (if t179.toList = a0.toList then (some (x176000_2, (rd t167 0), (rd t167 1), (rd t167 2), (rd t167 3), 0)) else (some (0, 0, 0, 0, 0, 6))) = some (r1, r2, r3, r4, r5, r6) := H
          have A54 := Aside0.mk A540
          clear A540
          by_cases c55 : t179.toList = a0.toList
          ·rw [if_pos c55] at H
           have c55b0 : (t179.toList == a0.toList) = true := beq_iff_eq.mpr c55
           have c55b1 : (t179.toList != a0.toList) = false := bne_eq_false_iff_eq.mpr c55
           clear c55
           simp only [Option.some.injEq, Prod.mk.injEq] at H
           obtain ⟨rfl, rfl, rfl, rfl, rfl, rfl⟩ := H
           have hnb56 := NB175_148.out
           have hnc56 := NB148_175.out
           have hcz57_0 : wr.cell? ⟨gb175, 0, none⟩ = some (.int .i64 x176000_2) := (blk_cell BK175.out 0).trans rfl
           have hcz57_1 : wr.cell? ⟨gb175, 1, none⟩ = some (.int .i64 (rd t167 0)) := (blk_cell BK175.out 1).trans rfl
           have hcz57_2 : wr.cell? ⟨gb175, 2, none⟩ = some (.int .i64 (rd t167 1)) := (blk_cell BK175.out 2).trans rfl
           have hcz57_3 : wr.cell? ⟨gb175, 3, none⟩ = some (.int .i64 (rd t167 2)) := (blk_cell BK175.out 3).trans rfl
           have hcz57_4 : wr.cell? ⟨gb175, 4, none⟩ = some (.int .i64 (rd t167 3)) := (blk_cell BK175.out 4).trans rfl
           have hfz57_0 := blk_frozen BK175.out 0
           have hfz57_1 := blk_frozen BK175.out 1
           have hfz57_2 := blk_frozen BK175.out 2
           have hfz57_3 := blk_frozen BK175.out 3
           have hfz57_4 := blk_frozen BK175.out 4
           go_wp2_with (first | ((with_reducible refine gate_callee (f := 159) rfl ?_); refine goesL_ (some 71) rfl rfl Try.func159 (by kernel_rfl) rfl #[.agg #[.int .i64 x176000_2, .int .i64 (rd t167 0), .int .i64 (rd t167 1), .int .i64 (rd t167 2), .int .i64 (rd t167 3)]] rfl ag_ ?_; (with_reducible refine (spec_IsArea.calls x176000_2 (rd t167 0) (rd t167 1) (rd t167 2) (rd t167 3) true _ A52.out).mono ?_); rintro e w58 ⟨rfl, hb⟩; refine ⟨_, rfl, ?_⟩; replace HO_4 := Aside0.mk (Kd.R_below (rk_ HO_4.out) hb); replace BK148 := Aside0.mk (blk_below (g := gb148) (o := .cells #[.int .i64 0, .int .i64 0, .int .i64 0, .int .i64 0, .int .i64 0] 83 (0, 0)) (r0_ BK148.out) hb); replace BK175 := Aside0.mk (blk_below (g := gb175) (o := .cells #[.int .i64 x176000_2, .int .i64 (rd t167 0), .int .i64 (rd t167 1), .int .i64 (rd t167 2), .int .i64 (rd t167 3)] 83 (0, 0)) (r0_ BK175.out) hb); replace HB := Aside0.mk (below_step (r5_ HB.out GE148.out GE175.out) hb); (try clear hb); (try clear hb2); (try clear hk); (try clear hi); have hcz59_0 : w58.cell? ⟨gb175, 0, none⟩ = some (.int .i64 x176000_2) := (blk_cell BK175.out 0).trans rfl; have hcz59_1 : w58.cell? ⟨gb175, 1, none⟩ = some (.int .i64 (rd t167 0)) := (blk_cell BK175.out 1).trans rfl; have hcz59_2 : w58.cell? ⟨gb175, 2, none⟩ = some (.int .i64 (rd t167 1)) := (blk_cell BK175.out 2).trans rfl; have hcz59_3 : w58.cell? ⟨gb175, 3, none⟩ = some (.int .i64 (rd t167 2)) := (blk_cell BK175.out 3).trans rfl; have hcz59_4 : w58.cell? ⟨gb175, 4, none⟩ = some (.int .i64 (rd t167 3)) := (blk_cell BK175.out 4).trans rfl; have hfz59_0 := blk_frozen BK175.out 0; have hfz59_1 := blk_frozen BK175.out 1; have hfz59_2 := blk_frozen BK175.out 2; have hfz59_3 := blk_frozen BK175.out 3; have hfz59_4 := blk_frozen BK175.out 4) | (go_at_call 160; (with_reducible refine (spec_l15Text.calls k2 x176000_2 (rd t167 0) (rd t167 1) (rd t167 2) (rd t167 3) t179 _ A54.out).mono ?_); rintro e w60 ⟨rfl, hb⟩; replace HO_4 := Aside0.mk (Kd.R_below (rk_ HO_4.out) hb); replace BK148 := Aside0.mk (blk_below (g := gb148) (o := .cells #[.int .i64 0, .int .i64 0, .int .i64 0, .int .i64 0, .int .i64 0] 83 (0, 0)) (r0_ BK148.out) hb); replace BK175 := Aside0.mk (blk_below (g := gb175) (o := .cells #[.int .i64 x176000_2, .int .i64 (rd t167 0), .int .i64 (rd t167 1), .int .i64 (rd t167 2), .int .i64 (rd t167 3)] 83 (0, 0)) (r0_ BK175.out) hb); replace HB := Aside0.mk (below_step (r5_ HB.out GE148.out GE175.out) hb); (try clear hb); (try clear hb2); (try clear hk); (try clear hi); have hcz61_0 : w60.cell? ⟨gb175, 0, none⟩ = some (.int .i64 x176000_2) := (blk_cell BK175.out 0).trans rfl; have hcz61_1 : w60.cell? ⟨gb175, 1, none⟩ = some (.int .i64 (rd t167 0)) := (blk_cell BK175.out 1).trans rfl; have hcz61_2 : w60.cell? ⟨gb175, 2, none⟩ = some (.int .i64 (rd t167 1)) := (blk_cell BK175.out 2).trans rfl; have hcz61_3 : w60.cell? ⟨gb175, 3, none⟩ = some (.int .i64 (rd t167 2)) := (blk_cell BK175.out 3).trans rfl; have hcz61_4 : w60.cell? ⟨gb175, 4, none⟩ = some (.int .i64 (rd t167 3)) := (blk_cell BK175.out 4).trans rfl; have hfz61_0 := blk_frozen BK175.out 0; have hfz61_1 := blk_frozen BK175.out 1; have hfz61_2 := blk_frozen BK175.out 2; have hfz61_3 := blk_frozen BK175.out 3; have hfz61_4 := blk_frozen BK175.out 4; have hcz62_0 : w60.cell? ⟨gb148, 0, none⟩ = some (.int .i64 0) := (blk_cell BK148.out 0).trans rfl; have hcz62_1 : w60.cell? ⟨gb148, 1, none⟩ = some (.int .i64 0) := (blk_cell BK148.out 1).trans rfl; have hcz62_2 : w60.cell? ⟨gb148, 2, none⟩ = some (.int .i64 0) := (blk_cell BK148.out 2).trans rfl; have hcz62_3 : w60.cell? ⟨gb148, 3, none⟩ = some (.int .i64 0) := (blk_cell BK148.out 3).trans rfl; have hcz62_4 : w60.cell? ⟨gb148, 4, none⟩ = some (.int .i64 0) := (blk_cell BK148.out 4).trans rfl; have hfz62_0 := blk_frozen BK148.out 0; have hfz62_1 := blk_frozen BK148.out 1; have hfz62_2 := blk_frozen BK148.out 2; have hfz62_3 := blk_frozen BK148.out 3; have hfz62_4 := blk_frozen BK148.out 4))
           refine bodyPost_ret (results_ct rfl _ _ gb148 83 #[.int .i64 x176000_2, .int .i64 (rd t167 0), .int .i64 (rd t167 1), .int .i64 (rd t167 2), .int .i64 (rd t167 3)] (0, 0) _ rfl (by (with_reducible repeat (first | refine blk_drewN ?_ _ | refine blk_drew ?_ | refine blk_alloc ?_ _)); refine blk_put (cs := #[.int .i64 x176000_2, .int .i64 (rd t167 0), .int .i64 (rd t167 1), .int .i64 (rd t167 2), .int .i64 0]) ?_ 4 _ rfl; (with_reducible repeat (first | refine blk_drewN ?_ _ | refine blk_drew ?_ | refine blk_alloc ?_ _)); refine blk_put (cs := #[.int .i64 x176000_2, .int .i64 (rd t167 0), .int .i64 (rd t167 1), .int .i64 0, .int .i64 0]) ?_ 3 _ rfl; (with_reducible repeat (first | refine blk_drewN ?_ _ | refine blk_drew ?_ | refine blk_alloc ?_ _)); refine blk_put (cs := #[.int .i64 x176000_2, .int .i64 (rd t167 0), .int .i64 0, .int .i64 0, .int .i64 0]) ?_ 2 _ rfl; (with_reducible repeat (first | refine blk_drewN ?_ _ | refine blk_drew ?_ | refine blk_alloc ?_ _)); refine blk_put (cs := #[.int .i64 x176000_2, .int .i64 0, .int .i64 0, .int .i64 0, .int .i64 0]) ?_ 1 _ rfl; (with_reducible repeat (first | refine blk_drewN ?_ _ | refine blk_drew ?_ | refine blk_alloc ?_ _)); refine blk_put (cs := #[.int .i64 0, .int .i64 0, .int .i64 0, .int .i64 0, .int .i64 0]) ?_ 0 _ rfl; (with_reducible repeat (first | refine blk_drewN ?_ _ | refine blk_drew ?_ | refine blk_alloc ?_ _)); exact BK148.out) Try.underlying83 rfl (by kernel_rfl)) rfl ?_
           exact ⟨by first | rfl | (simp [errW_none, errW_some] <;> rfl) | (simp [*, errW_none, errW_some] <;> rfl), r5_ HB.out GE148.out GE175.out⟩
          ·rw [if_neg c55] at H
           have c55b0 : (t179.toList == a0.toList) = false := beq_eq_false_iff_ne.mpr c55
           have c55b1 : (t179.toList != a0.toList) = true := bne_iff_ne.mpr c55
           simp only [Option.some.injEq, Prod.mk.injEq] at H
           obtain ⟨rfl, rfl, rfl, rfl, rfl, rfl⟩ := H
           have hnb63 := NB175_148.out
           have hnc63 := NB148_175.out
           have hcz64_0 : wr.cell? ⟨gb175, 0, none⟩ = some (.int .i64 x176000_2) := (blk_cell BK175.out 0).trans rfl
           have hcz64_1 : wr.cell? ⟨gb175, 1, none⟩ = some (.int .i64 (rd t167 0)) := (blk_cell BK175.out 1).trans rfl
           have hcz64_2 : wr.cell? ⟨gb175, 2, none⟩ = some (.int .i64 (rd t167 1)) := (blk_cell BK175.out 2).trans rfl
           have hcz64_3 : wr.cell? ⟨gb175, 3, none⟩ = some (.int .i64 (rd t167 2)) := (blk_cell BK175.out 3).trans rfl
           have hcz64_4 : wr.cell? ⟨gb175, 4, none⟩ = some (.int .i64 (rd t167 3)) := (blk_cell BK175.out 4).trans rfl
           have hfz64_0 := blk_frozen BK175.out 0
           have hfz64_1 := blk_frozen BK175.out 1
           have hfz64_2 := blk_frozen BK175.out 2
           have hfz64_3 := blk_frozen BK175.out 3
           have hfz64_4 := blk_frozen BK175.out 4
           go_wp2_with (first | ((with_reducible refine gate_callee (f := 159) rfl ?_); refine goesL_ (some 71) rfl rfl Try.func159 (by kernel_rfl) rfl #[.agg #[.int .i64 x176000_2, .int .i64 (rd t167 0), .int .i64 (rd t167 1), .int .i64 (rd t167 2), .int .i64 (rd t167 3)]] rfl ag_ ?_; (with_reducible refine (spec_IsArea.calls x176000_2 (rd t167 0) (rd t167 1) (rd t167 2) (rd t167 3) true _ A52.out).mono ?_); rintro e w65 ⟨rfl, hb⟩; refine ⟨_, rfl, ?_⟩; replace HO_4 := Aside0.mk (Kd.R_below (rk_ HO_4.out) hb); replace BK148 := Aside0.mk (blk_below (g := gb148) (o := .cells #[.int .i64 0, .int .i64 0, .int .i64 0, .int .i64 0, .int .i64 0] 83 (0, 0)) (r0_ BK148.out) hb); replace BK175 := Aside0.mk (blk_below (g := gb175) (o := .cells #[.int .i64 x176000_2, .int .i64 (rd t167 0), .int .i64 (rd t167 1), .int .i64 (rd t167 2), .int .i64 (rd t167 3)] 83 (0, 0)) (r0_ BK175.out) hb); replace HB := Aside0.mk (below_step (r5_ HB.out GE148.out GE175.out) hb); (try clear hb); (try clear hb2); (try clear hk); (try clear hi); have hcz66_0 : w65.cell? ⟨gb175, 0, none⟩ = some (.int .i64 x176000_2) := (blk_cell BK175.out 0).trans rfl; have hcz66_1 : w65.cell? ⟨gb175, 1, none⟩ = some (.int .i64 (rd t167 0)) := (blk_cell BK175.out 1).trans rfl; have hcz66_2 : w65.cell? ⟨gb175, 2, none⟩ = some (.int .i64 (rd t167 1)) := (blk_cell BK175.out 2).trans rfl; have hcz66_3 : w65.cell? ⟨gb175, 3, none⟩ = some (.int .i64 (rd t167 2)) := (blk_cell BK175.out 3).trans rfl; have hcz66_4 : w65.cell? ⟨gb175, 4, none⟩ = some (.int .i64 (rd t167 3)) := (blk_cell BK175.out 4).trans rfl; have hfz66_0 := blk_frozen BK175.out 0; have hfz66_1 := blk_frozen BK175.out 1; have hfz66_2 := blk_frozen BK175.out 2; have hfz66_3 := blk_frozen BK175.out 3; have hfz66_4 := blk_frozen BK175.out 4) | (go_at_call 160; (with_reducible refine (spec_l15Text.calls k2 x176000_2 (rd t167 0) (rd t167 1) (rd t167 2) (rd t167 3) t179 _ A54.out).mono ?_); rintro e w67 ⟨rfl, hb⟩; replace HO_4 := Aside0.mk (Kd.R_below (rk_ HO_4.out) hb); replace BK148 := Aside0.mk (blk_below (g := gb148) (o := .cells #[.int .i64 0, .int .i64 0, .int .i64 0, .int .i64 0, .int .i64 0] 83 (0, 0)) (r0_ BK148.out) hb); replace BK175 := Aside0.mk (blk_below (g := gb175) (o := .cells #[.int .i64 x176000_2, .int .i64 (rd t167 0), .int .i64 (rd t167 1), .int .i64 (rd t167 2), .int .i64 (rd t167 3)] 83 (0, 0)) (r0_ BK175.out) hb); replace HB := Aside0.mk (below_step (r5_ HB.out GE148.out GE175.out) hb); (try clear hb); (try clear hb2); (try clear hk); (try clear hi); have hcz68_0 : w67.cell? ⟨gb148, 0, none⟩ = some (.int .i64 0) := (blk_cell BK148.out 0).trans rfl; have hcz68_1 : w67.cell? ⟨gb148, 1, none⟩ = some (.int .i64 0) := (blk_cell BK148.out 1).trans rfl; have hcz68_2 : w67.cell? ⟨gb148, 2, none⟩ = some (.int .i64 0) := (blk_cell BK148.out 2).trans rfl; have hcz68_3 : w67.cell? ⟨gb148, 3, none⟩ = some (.int .i64 0) := (blk_cell BK148.out 3).trans rfl; have hcz68_4 : w67.cell? ⟨gb148, 4, none⟩ = some (.int .i64 0) := (blk_cell BK148.out 4).trans rfl; have hfz68_0 := blk_frozen BK148.out 0; have hfz68_1 := blk_frozen BK148.out 1; have hfz68_2 := blk_frozen BK148.out 2; have hfz68_3 := blk_frozen BK148.out 3; have hfz68_4 := blk_frozen BK148.out 4))
           refine bodyPost_ret (results_ct rfl _ _ gb148 83 #[.int .i64 0, .int .i64 0, .int .i64 0, .int .i64 0, .int .i64 0] (0, 0) _ rfl (r12_ BK148.out) Try.underlying83 rfl (by kernel_rfl)) rfl ?_
           exact ⟨by first | rfl | (simp [errW_none, errW_some] <;> rfl) | (simp [*, errW_none, errW_some] <;> rfl), r5_ HB.out GE148.out GE175.out⟩
         ·replace c53 := Bool.eq_false_iff.mpr c53
          subst c53
          replace H : (some (0, 0, 0, 0, 0, 6)) = some (r1, r2, r3, r4, r5, r6) := by rw [if_neg (show ¬ (false = true) by decide)] at H; exact H
          simp only [Option.some.injEq, Prod.mk.injEq] at H
          obtain ⟨rfl, rfl, rfl, rfl, rfl, rfl⟩ := H
          have hnb69 := NB175_148.out
          have hnc69 := NB148_175.out
          have hcz70_0 : wr.cell? ⟨gb175, 0, none⟩ = some (.int .i64 x176000_2) := (blk_cell BK175.out 0).trans rfl
          have hcz70_1 : wr.cell? ⟨gb175, 1, none⟩ = some (.int .i64 (rd t167 0)) := (blk_cell BK175.out 1).trans rfl
          have hcz70_2 : wr.cell? ⟨gb175, 2, none⟩ = some (.int .i64 (rd t167 1)) := (blk_cell BK175.out 2).trans rfl
          have hcz70_3 : wr.cell? ⟨gb175, 3, none⟩ = some (.int .i64 (rd t167 2)) := (blk_cell BK175.out 3).trans rfl
          have hcz70_4 : wr.cell? ⟨gb175, 4, none⟩ = some (.int .i64 (rd t167 3)) := (blk_cell BK175.out 4).trans rfl
          have hfz70_0 := blk_frozen BK175.out 0
          have hfz70_1 := blk_frozen BK175.out 1
          have hfz70_2 := blk_frozen BK175.out 2
          have hfz70_3 := blk_frozen BK175.out 3
          have hfz70_4 := blk_frozen BK175.out 4
          go_wp2_with (first | ((with_reducible refine gate_callee (f := 159) rfl ?_); refine goesL_ (some 71) rfl rfl Try.func159 (by kernel_rfl) rfl #[.agg #[.int .i64 x176000_2, .int .i64 (rd t167 0), .int .i64 (rd t167 1), .int .i64 (rd t167 2), .int .i64 (rd t167 3)]] rfl ag_ ?_; (with_reducible refine (spec_IsArea.calls x176000_2 (rd t167 0) (rd t167 1) (rd t167 2) (rd t167 3) false _ A52.out).mono ?_); rintro e w71 ⟨rfl, hb⟩; refine ⟨_, rfl, ?_⟩; replace HO_4 := Aside0.mk (Kd.R_below (rk_ HO_4.out) hb); replace BK148 := Aside0.mk (blk_below (g := gb148) (o := .cells #[.int .i64 0, .int .i64 0, .int .i64 0, .int .i64 0, .int .i64 0] 83 (0, 0)) (r0_ BK148.out) hb); replace BK175 := Aside0.mk (blk_below (g := gb175) (o := .cells #[.int .i64 x176000_2, .int .i64 (rd t167 0), .int .i64 (rd t167 1), .int .i64 (rd t167 2), .int .i64 (rd t167 3)] 83 (0, 0)) (r0_ BK175.out) hb); replace HB := Aside0.mk (below_step (r5_ HB.out GE148.out GE175.out) hb); (try clear hb); (try clear hb2); (try clear hk); (try clear hi); have hcz72_0 : w71.cell? ⟨gb148, 0, none⟩ = some (.int .i64 0) := (blk_cell BK148.out 0).trans rfl; have hcz72_1 : w71.cell? ⟨gb148, 1, none⟩ = some (.int .i64 0) := (blk_cell BK148.out 1).trans rfl; have hcz72_2 : w71.cell? ⟨gb148, 2, none⟩ = some (.int .i64 0) := (blk_cell BK148.out 2).trans rfl; have hcz72_3 : w71.cell? ⟨gb148, 3, none⟩ = some (.int .i64 0) := (blk_cell BK148.out 3).trans rfl; have hcz72_4 : w71.cell? ⟨gb148, 4, none⟩ = some (.int .i64 0) := (blk_cell BK148.out 4).trans rfl; have hfz72_0 := blk_frozen BK148.out 0; have hfz72_1 := blk_frozen BK148.out 1; have hfz72_2 := blk_frozen BK148.out 2; have hfz72_3 := blk_frozen BK148.out 3; have hfz72_4 := blk_frozen BK148.out 4))
          refine bodyPost_ret (results_ct rfl _ _ gb148 83 #[.int .i64 0, .int .i64 0, .int .i64 0, .int .i64 0, .int .i64 0] (0, 0) _ rfl (r12_ BK148.out) Try.underlying83 rfl (by kernel_rfl)) rfl ?_
          exact ⟨by first | rfl | (simp [errW_none, errW_some] <;> rfl) | (simp [*, errW_none, errW_some] <;> rfl), r5_ HB.out GE148.out GE175.out⟩
  ·rw [if_neg c6] at H
   have c6b0 : ((t153.length : Int) == 2) = false := beq_eq_false_iff_ne.mpr c6
   have c6b1 : ((t153.length : Int) != 2) = true := bne_iff_ne.mpr c6
   simp only [Option.some.injEq, Prod.mk.injEq] at H
   obtain ⟨rfl, rfl, rfl, rfl, rfl, rfl⟩ := H
   go_enter Try.func61, Try.ntmps61
   go_wp2_with (first | ((with_reducible refine gate_dst (N := 2) rfl ?_); (try (refine gate_guard (by rfl) ?_; dsimp only)); refine box_event ?hg (N := 2) ?hd (cs := #[.int .i64 0, .int .i64 0, .int .i64 0, .int .i64 0, .int .i64 0]) (t := 83) ?hr ?_; (case hd => rfl); (case hg => rfl); (case hr => first | (go_simp; done) | (go_simp; rfl)); intro gb148 hg w73 hbox hb; have BK148 := Aside0.mk (hbox); have GW148 := Aside0.mk ((by rw [hg]; exact (below_size (bl_ HB.out)) : w.heap.size ≤ gb148)); have GE148 := Aside0.mk ((by rw [hg]; exact (below_size (bl_ HB.out)) : w.heap.size ≤ gb148)); replace HB := Aside0.mk (below_step (bl_ HB.out) hb); clear hb hbox hg) | ((with_reducible refine gate_callee (f := 156) rfl ?_); refine goesL_ (some 11) rfl rfl Try.func156 (by kernel_rfl) rfl #[.string a0, .int .u8 32] rfl ag_ ?_; (with_reducible refine (spec_l01Split.calls k a0 32 t149 _ A2.out).mono ?_); rintro e w74 ⟨v150, rfl, ho0, hb⟩; refine ⟨_, rfl, ?_⟩; have HO151 := Aside0.mk (Kd.R_lower ho0 (below_size (r1_ HB.out GE148.out))); replace BK148 := Aside0.mk (blk_below (g := gb148) (o := .cells #[.int .i64 0, .int .i64 0, .int .i64 0, .int .i64 0, .int .i64 0] 83 (0, 0)) (r0_ BK148.out) hb); replace HB := Aside0.mk (below_step (r1_ HB.out GE148.out) hb); (try clear hb); (try clear hb2); (try clear hk); (try clear hi); (try clear ho0); obtain ⟨Ao75, co75, eo75⟩ := Kd.R_slice HO151.out; subst eo75; have p152 : 0 ≤ (1 : Int) := (by omega); have q152 : 1 < (t149.length : Int) := od_; obtain ⟨ad152, e152, hx152_0⟩ := Kd.at_string (Kd.R_reads' HO151.out).2.2 1 p152 q152; cases e152; (try simp only [show (1 : Int).toNat = 1 from rfl, Nat.reduceMul, Nat.reduceEqDiff, Go.Addr.add, ↓reduceIte] at hx152_0); have qi152 : (1 < t149.length) = True := eq_true (by omega); (try rw [show ((1 : Int)).toNat = 1 from rfl] at hx152_0); replace p152 := eq_true p152; replace q152 := eq_true q152) | ((with_reducible refine gate_callee (f := 156) rfl ?_); refine goesL_ (some 19) rfl rfl Try.func156 (by kernel_rfl) rfl #[.string (rdOf ByteArray.empty t149 1), .int .u8 43] rfl ag_ ?_; (with_reducible refine (spec_l01Split.calls k (rdOf ByteArray.empty t149 1) 43 t153 _ A5.out).mono ?_); rintro e w76 ⟨v154, rfl, ho0, hb⟩; refine ⟨_, rfl, ?_⟩; have HO155 := Aside0.mk (Kd.R_lower (Kd.R_new' ho0 (Kd.R_lt (rk_ HO151.out))) (below_size (r1_ HB.out GE148.out))); replace HO151 := Aside0.mk (Kd.R_elder' (rk_ HO151.out) (Kd.R_base ho0) hb); replace BK148 := Aside0.mk (blk_below (g := gb148) (o := .cells #[.int .i64 0, .int .i64 0, .int .i64 0, .int .i64 0, .int .i64 0] 83 (0, 0)) (r0_ BK148.out) hb); replace HB := Aside0.mk (below_step (r1_ HB.out GE148.out) hb); (try clear hb); (try clear hb2); (try clear hk); (try clear hi); (try clear ho0); obtain ⟨Ao77, co77, eo77⟩ := Kd.R_slice HO155.out; subst eo77; have hcz78_0 : w76.cell? ⟨gb148, 0, none⟩ = some (.int .i64 0) := (blk_cell BK148.out 0).trans rfl; have hcz78_1 : w76.cell? ⟨gb148, 1, none⟩ = some (.int .i64 0) := (blk_cell BK148.out 1).trans rfl; have hcz78_2 : w76.cell? ⟨gb148, 2, none⟩ = some (.int .i64 0) := (blk_cell BK148.out 2).trans rfl; have hcz78_3 : w76.cell? ⟨gb148, 3, none⟩ = some (.int .i64 0) := (blk_cell BK148.out 3).trans rfl; have hcz78_4 : w76.cell? ⟨gb148, 4, none⟩ = some (.int .i64 0) := (blk_cell BK148.out 4).trans rfl; have hfz78_0 := blk_frozen BK148.out 0; have hfz78_1 := blk_frozen BK148.out 1; have hfz78_2 := blk_frozen BK148.out 2; have hfz78_3 := blk_frozen BK148.out 3; have hfz78_4 := blk_frozen BK148.out 4))
   refine bodyPost_ret (results_ct rfl _ _ gb148 83 #[.int .i64 0, .int .i64 0, .int .i64 0, .int .i64 0, .int .i64 0] (0, 0) _ rfl (r12_ BK148.out) Try.underlying83 rfl (by kernel_rfl)) rfl ?_
   exact ⟨by first | rfl | (simp [errW_none, errW_some] <;> rfl) | (simp [*, errW_none, errW_some] <;> rfl), r1_ HB.out GE148.out⟩
 ·rw [if_neg c3] at H
  have c3b0 : ((t149.length : Int) == 2) = false := beq_eq_false_iff_ne.mpr c3
  have c3b1 : ((t149.length : Int) != 2) = true := bne_iff_ne.mpr c3
  simp only [Option.some.injEq, Prod.mk.injEq] at H
  obtain ⟨rfl, rfl, rfl, rfl, rfl, rfl⟩ := H
  go_enter Try.func61, Try.ntmps61
  go_wp2_with (first | ((with_reducible refine gate_dst (N := 2) rfl ?_); (try (refine gate_guard (by rfl) ?_; dsimp only)); refine box_event ?hg (N := 2) ?hd (cs := #[.int .i64 0, .int .i64 0, .int .i64 0, .int .i64 0, .int .i64 0]) (t := 83) ?hr ?_; (case hd => rfl); (case hg => rfl); (case hr => first | (go_simp; done) | (go_simp; rfl)); intro gb148 hg w79 hbox hb; have BK148 := Aside0.mk (hbox); have GW148 := Aside0.mk ((by rw [hg]; exact (below_size (bl_ HB.out)) : w.heap.size ≤ gb148)); have GE148 := Aside0.mk ((by rw [hg]; exact (below_size (bl_ HB.out)) : w.heap.size ≤ gb148)); replace HB := Aside0.mk (below_step (bl_ HB.out) hb); clear hb hbox hg) | ((with_reducible refine gate_callee (f := 156) rfl ?_); refine goesL_ (some 11) rfl rfl Try.func156 (by kernel_rfl) rfl #[.string a0, .int .u8 32] rfl ag_ ?_; (with_reducible refine (spec_l01Split.calls k a0 32 t149 _ A2.out).mono ?_); rintro e w80 ⟨v150, rfl, ho0, hb⟩; refine ⟨_, rfl, ?_⟩; have HO151 := Aside0.mk (Kd.R_lower ho0 (below_size (r1_ HB.out GE148.out))); replace BK148 := Aside0.mk (blk_below (g := gb148) (o := .cells #[.int .i64 0, .int .i64 0, .int .i64 0, .int .i64 0, .int .i64 0] 83 (0, 0)) (r0_ BK148.out) hb); replace HB := Aside0.mk (below_step (r1_ HB.out GE148.out) hb); (try clear hb); (try clear hb2); (try clear hk); (try clear hi); (try clear ho0); obtain ⟨Ao81, co81, eo81⟩ := Kd.R_slice HO151.out; subst eo81; have hcz82_0 : w80.cell? ⟨gb148, 0, none⟩ = some (.int .i64 0) := (blk_cell BK148.out 0).trans rfl; have hcz82_1 : w80.cell? ⟨gb148, 1, none⟩ = some (.int .i64 0) := (blk_cell BK148.out 1).trans rfl; have hcz82_2 : w80.cell? ⟨gb148, 2, none⟩ = some (.int .i64 0) := (blk_cell BK148.out 2).trans rfl; have hcz82_3 : w80.cell? ⟨gb148, 3, none⟩ = some (.int .i64 0) := (blk_cell BK148.out 3).trans rfl; have hcz82_4 : w80.cell? ⟨gb148, 4, none⟩ = some (.int .i64 0) := (blk_cell BK148.out 4).trans rfl; have hfz82_0 := blk_frozen BK148.out 0; have hfz82_1 := blk_frozen BK148.out 1; have hfz82_2 := blk_frozen BK148.out 2; have hfz82_3 := blk_frozen BK148.out 3; have hfz82_4 := blk_frozen BK148.out 4))
  refine bodyPost_ret (results_ct rfl _ _ gb148 83 #[.int .i64 0, .int .i64 0, .int .i64 0, .int .i64 0, .int .i64 0] (0, 0) _ rfl (r12_ BK148.out) Try.underlying83 rfl (by kernel_rfl)) rfl ?_
  exact ⟨by first | rfl | (simp [errW_none, errW_some] <;> rfl) | (simp [*, errW_none, errW_some] <;> rfl), r1_ HB.out GE148.out⟩
def impl_within.f (a0 : Int) (a1 : Int) (a2 : Int) : Option (Bool) := if a1 ≤ a0 then (some (decide (a0 ≤ a2))) else (some false)
set_option maxHeartbeats 8000000 in
set_option maxRecDepth 100000 in
theorem impl_within.calls (a0 : Int) (a1 : Int) (a2 : Int) (r : Bool) (w : World) (h : impl_within.f a0 a1 a2 = some r) :
    Calls Try.prog 130 #[.int .i64 a0, .int .i64 a1, .int .i64 a2] w fun e w' => e = .returned (.bool r) ∧ Drawn0 w w' := by
  have H : (if a1 ≤ a0 then (some (decide (a0 ≤ a2))) else (some false)) = some r := h
  clear h
  by_cases c4 : a1 ≤ a0
  · rw [if_pos c4] at H
    have c4b0 : decide (a1 ≤ a0) = true := decide_eq_true c4
    clear c4
    obtain rfl := Option.some.inj H
    go_enter Try.func130, Try.ntmps130
    go_wp2
    go_ret
    exact ⟨by first | rfl | (simp; done) | (simp [*]; done), by repeat (first | exact Drawn0.refl _ | apply Drawn0.step)⟩
  · rw [if_neg c4] at H
    have c4b0 : decide (a1 ≤ a0) = false := decide_eq_false c4
    clear c4
    obtain rfl := Option.some.inj H
    go_enter Try.func130, Try.ntmps130
    go_wp2
    go_ret
    exact ⟨by first | rfl | (simp; done) | (simp [*]; done), by repeat (first | exact Drawn0.refl _ | apply Drawn0.step)⟩
def impl_isKind.f (a0 : Int) : Option (Bool) := (impl_within.f a0 0 3).bind fun t180 => (some t180)
set_option maxHeartbeats 8000000 in
set_option maxRecDepth 100000 in
theorem impl_isKind.calls (a0 : Int) (r : Bool) (w : World) (h : impl_isKind.f a0 = some r) :
    Calls Try.prog 153 #[.int .i64 a0] w fun e w' => e = .returned (.bool r) ∧ Drawn0 w w' := by
  have H : ((impl_within.f a0 0 3).bind fun t180 => (some t180)) = some r := h
  clear h
  replace H := Option.bind_eq_some_iff.mp H
  obtain ⟨t180, A20, H⟩ := H
  replace H : (some t180) = some r := H
  have A2 := Aside0.mk A20
  clear A20
  obtain rfl := Option.some.inj H
  go_enter Try.func153, Try.ntmps153
  go_wp2_with (first | ((with_reducible refine gate_callee (f := 130) rfl ?_); refine goesL_ (some 4) rfl rfl Try.func130 (by kernel_rfl) rfl #[.int .i64 a0, .int .i64 0, .int .i64 3] rfl ag_ ?_; (with_reducible refine (impl_within.calls a0 0 3 t180 _ A2.out).mono ?_); rintro e w' ⟨rfl, ⟨nd, rfl⟩⟩; refine ⟨_, rfl, ?_⟩))
  go_ret
  exact ⟨by first | rfl | (simp; done) | (simp [*]; done), by repeat (first | exact Drawn0.refl _ | apply Drawn0.step)⟩
def impl_isPlace.f (a0 : Int) (a1 : Int) : Option (Bool) := (impl_within.f a0 0 100000).bind fun t181 => (if t181 = true then ((impl_within.f a1 0 100000).bind fun t182 => (some t182)) else (some false))
set_option maxHeartbeats 8000000 in
set_option maxRecDepth 100000 in
theorem impl_isPlace.calls (a0 : Int) (a1 : Int) (r : Bool) (w : World) (h : impl_isPlace.f a0 a1 = some r) :
    Calls Try.prog 154 #[.int .i64 a0, .int .i64 a1] w fun e w' => e = .returned (.bool r) ∧ Drawn0 w w' := by
  have H : ((impl_within.f a0 0 100000).bind fun t181 => (if t181 = true then ((impl_within.f a1 0 100000).bind fun t182 => (some t182)) else (some false))) = some r := h
  clear h
  replace H := Option.bind_eq_some_iff.mp H
  obtain ⟨t181, A30, H⟩ := H
  replace H : (if t181 = true then ((impl_within.f a1 0 100000).bind fun t182 => (some t182)) else (some false)) = some r := H
  have A3 := Aside0.mk A30
  clear A30
  by_cases c4 : t181 = true
  · subst c4
    replace H : ((impl_within.f a1 0 100000).bind fun t182 => (some t182)) = some r := by rw [if_pos rfl] at H; exact H
    replace H := Option.bind_eq_some_iff.mp H
    obtain ⟨t182, A50, H⟩ := H
    replace H : (some t182) = some r := H
    have A5 := Aside0.mk A50
    clear A50
    obtain rfl := Option.some.inj H
    go_enter Try.func154, Try.ntmps154
    go_wp2_with (first | ((with_reducible refine gate_callee (f := 130) rfl ?_); refine goesL_ (some 6) rfl rfl Try.func130 (by kernel_rfl) rfl #[.int .i64 a0, .int .i64 0, .int .i64 100000] rfl ag_ ?_; (with_reducible refine (impl_within.calls a0 0 100000 true _ A3.out).mono ?_); rintro e w' ⟨rfl, ⟨nd, rfl⟩⟩; refine ⟨_, rfl, ?_⟩) | (go_at_call 130; (with_reducible refine (impl_within.calls a1 0 100000 t182 _ A5.out).mono ?_); rintro e w' ⟨rfl, ⟨nd, rfl⟩⟩))
    go_ret
    exact ⟨by first | rfl | (simp; done) | (simp [*]; done), by repeat (first | exact Drawn0.refl _ | apply Drawn0.step)⟩
  · replace c4 := Bool.eq_false_iff.mpr c4
    subst c4
    replace H : (some false) = some r := by rw [if_neg (show ¬ (false = true) by decide)] at H; exact H
    obtain rfl := Option.some.inj H
    go_enter Try.func154, Try.ntmps154
    go_wp2_with (first | ((with_reducible refine gate_callee (f := 130) rfl ?_); refine goesL_ (some 6) rfl rfl Try.func130 (by kernel_rfl) rfl #[.int .i64 a0, .int .i64 0, .int .i64 100000] rfl ag_ ?_; (with_reducible refine (impl_within.calls a0 0 100000 false _ A3.out).mono ?_); rintro e w' ⟨rfl, ⟨nd, rfl⟩⟩; refine ⟨_, rfl, ?_⟩))
    go_ret
    exact ⟨by first | rfl | (simp; done) | (simp [*]; done), by repeat (first | exact Drawn0.refl _ | apply Drawn0.step)⟩
def impl_IsArea.f (a0_0 : Int) (a0_1 : Int) (a0_2 : Int) (a0_3 : Int) (a0_4 : Int) : Option (Bool) := (impl_isKind.f a0_0).bind fun t184 => (if t184 = true then ((impl_isPlace.f a0_1 a0_2).bind fun t185 => (if t185 = true then ((impl_within.f a0_3 1 (wrap64 (100000 - a0_1))).bind fun t186 => (if t186 = true then ((impl_within.f a0_4 1 (wrap64 (100000 - a0_2))).bind fun t187 => (some t187)) else (some false))) else (some false))) else (some false))
set_option maxHeartbeats 8000000 in
set_option maxRecDepth 100000 in
theorem impl_IsArea.calls (a0_0 : Int) (a0_1 : Int) (a0_2 : Int) (a0_3 : Int) (a0_4 : Int) (r : Bool) (w : World) (h : impl_IsArea.f a0_0 a0_1 a0_2 a0_3 a0_4 = some r) :
  Calls Try.prog 108 #[.agg #[.int .i64 a0_0, .int .i64 a0_1, .int .i64 a0_2, .int .i64 a0_3, .int .i64 a0_4]] w fun e w' => e = .returned (.bool r) ∧ Below w.heap.size w w' := by
 have hu83 := Try.underlying83
 have HB := Aside0.mk (Below.refl w.heap.size w)
 have H : ((impl_isKind.f a0_0).bind fun t184 => (if t184 = true then ((impl_isPlace.f a0_1 a0_2).bind fun t185 => (if t185 = true then ((impl_within.f a0_3 1 (wrap64 (100000 - a0_1))).bind fun t186 => (if t186 = true then ((impl_within.f a0_4 1 (wrap64 (100000 - a0_2))).bind fun t187 => (some t187)) else (some false))) else (some false))) else (some false))) = some r := h
 clear h
 replace H := Option.bind_eq_some_iff.mp H
 obtain ⟨t184, A20, H⟩ := H
 replace H : (if t184 = true then ((impl_isPlace.f a0_1 a0_2).bind fun t185 => (if t185 = true then ((impl_within.f a0_3 1 (wrap64 (100000 - a0_1))).bind fun t186 => (if t186 = true then ((impl_within.f a0_4 1 (wrap64 (100000 - a0_2))).bind fun t187 => (some t187)) else (some false))) else (some false))) else (some false)) = some r := H
 have A2 := Aside0.mk A20
 clear A20
 by_cases c3 : t184 = true
 ·subst c3
  replace H : ((impl_isPlace.f a0_1 a0_2).bind fun t185 => (if t185 = true then ((impl_within.f a0_3 1 (wrap64 (100000 - a0_1))).bind fun t186 => (if t186 = true then ((impl_within.f a0_4 1 (wrap64 (100000 - a0_2))).bind fun t187 => (some t187)) else (some false))) else (some false))) = some r := by rw [if_pos rfl] at H; exact H
  replace H := Option.bind_eq_some_iff.mp H
  obtain ⟨t185, A40, H⟩ := H
  replace H : (if t185 = true then ((impl_within.f a0_3 1 (wrap64 (100000 - a0_1))).bind fun t186 => (if t186 = true then ((impl_within.f a0_4 1 (wrap64 (100000 - a0_2))).bind fun t187 => (some t187)) else (some false))) else (some false)) = some r := H
  have A4 := Aside0.mk A40
  clear A40
  by_cases c5 : t185 = true
  ·subst c5
   replace H : ((impl_within.f a0_3 1 (wrap64 (100000 - a0_1))).bind fun t186 => (if t186 = true then ((impl_within.f a0_4 1 (wrap64 (100000 - a0_2))).bind fun t187 => (some t187)) else (some false))) = some r := by rw [if_pos rfl] at H; exact H
   replace H := Option.bind_eq_some_iff.mp H
   obtain ⟨t186, A60, H⟩ := H
   replace H : (if t186 = true then ((impl_within.f a0_4 1 (wrap64 (100000 - a0_2))).bind fun t187 => (some t187)) else (some false)) = some r := H
   have A6 := Aside0.mk A60
   clear A60
   by_cases c7 : t186 = true
   ·subst c7
    replace H : ((impl_within.f a0_4 1 (wrap64 (100000 - a0_2))).bind fun t187 => (some t187)) = some r := by rw [if_pos rfl] at H; exact H
    replace H := Option.bind_eq_some_iff.mp H
    obtain ⟨t187, A80, H⟩ := H
    replace H : (some t187) = some r := H
    have A8 := Aside0.mk A80
    clear A80
    obtain rfl := Option.some.inj H
    go_enter Try.func108, Try.ntmps108
    go_wp2_with (first | ((with_reducible refine gate_dst (N := 1) rfl ?_); refine box_event ?hg (N := 1) ?hd (cs := #[.int .i64 a0_0, .int .i64 a0_1, .int .i64 a0_2, .int .i64 a0_3, .int .i64 a0_4]) (t := 83) ?hr ?_; (case hd => rfl); (case hg => rfl); (case hr => first | (go_simp; done) | (go_simp; rfl)); intro gb183 hg w9 hbox hb; have BK183 := Aside0.mk (hbox); have GW183 := Aside0.mk ((by rw [hg]; exact (below_size (bl_ HB.out)) : w.heap.size ≤ gb183)); have GE183 := Aside0.mk ((by rw [hg]; exact (below_size (bl_ HB.out)) : w.heap.size ≤ gb183)); replace HB := Aside0.mk (below_step (bl_ HB.out) hb); clear hb hbox hg; have hcz10_0 : w9.cell? ⟨gb183, 0, none⟩ = some (.int .i64 a0_0) := (blk_cell BK183.out 0).trans rfl; have hcz10_1 : w9.cell? ⟨gb183, 1, none⟩ = some (.int .i64 a0_1) := (blk_cell BK183.out 1).trans rfl; have hcz10_2 : w9.cell? ⟨gb183, 2, none⟩ = some (.int .i64 a0_2) := (blk_cell BK183.out 2).trans rfl; have hcz10_3 : w9.cell? ⟨gb183, 3, none⟩ = some (.int .i64 a0_3) := (blk_cell BK183.out 3).trans rfl; have hcz10_4 : w9.cell? ⟨gb183, 4, none⟩ = some (.int .i64 a0_4) := (blk_cell BK183.out 4).trans rfl; have hfz10_0 := blk_frozen BK183.out 0; have hfz10_1 := blk_frozen BK183.out 1; have hfz10_2 := blk_frozen BK183.out 2; have hfz10_3 := blk_frozen BK183.out 3; have hfz10_4 := blk_frozen BK183.out 4) | ((with_reducible refine gate_callee (f := 153) rfl ?_); refine goesL_ (some 5) rfl rfl Try.func153 (by kernel_rfl) rfl #[.int .i64 a0_0] rfl ag_ ?_; (with_reducible refine (impl_isKind.calls a0_0 true _ A2.out).mono ?_); rintro e w' ⟨rfl, ⟨nd, rfl⟩⟩; refine ⟨_, rfl, ?_⟩) | (go_at_call 154; (with_reducible refine (impl_isPlace.calls a0_1 a0_2 true _ A4.out).mono ?_); rintro e w' ⟨rfl, ⟨nd, rfl⟩⟩) | (go_at_call 130; (with_reducible refine (impl_within.calls a0_3 1 (wrap64 (100000 - a0_1)) true _ A6.out).mono ?_); rintro e w' ⟨rfl, ⟨nd, rfl⟩⟩) | (go_at_call 130; (with_reducible refine (impl_within.calls a0_4 1 (wrap64 (100000 - a0_2)) t187 _ A8.out).mono ?_); rintro e w' ⟨rfl, ⟨nd, rfl⟩⟩))
    go_ret
    exact ⟨by first | rfl | (simp [errW_none, errW_some] <;> rfl) | (simp [*, errW_none, errW_some] <;> rfl), r1_ HB.out GE183.out⟩
   ·replace c7 := Bool.eq_false_iff.mpr c7
    subst c7
    replace H : (some false) = some r := by rw [if_neg (show ¬ (false = true) by decide)] at H; exact H
    obtain rfl := Option.some.inj H
    go_enter Try.func108, Try.ntmps108
    go_wp2_with (first | ((with_reducible refine gate_dst (N := 1) rfl ?_); refine box_event ?hg (N := 1) ?hd (cs := #[.int .i64 a0_0, .int .i64 a0_1, .int .i64 a0_2, .int .i64 a0_3, .int .i64 a0_4]) (t := 83) ?hr ?_; (case hd => rfl); (case hg => rfl); (case hr => first | (go_simp; done) | (go_simp; rfl)); intro gb183 hg w11 hbox hb; have BK183 := Aside0.mk (hbox); have GW183 := Aside0.mk ((by rw [hg]; exact (below_size (bl_ HB.out)) : w.heap.size ≤ gb183)); have GE183 := Aside0.mk ((by rw [hg]; exact (below_size (bl_ HB.out)) : w.heap.size ≤ gb183)); replace HB := Aside0.mk (below_step (bl_ HB.out) hb); clear hb hbox hg; have hcz12_0 : w11.cell? ⟨gb183, 0, none⟩ = some (.int .i64 a0_0) := (blk_cell BK183.out 0).trans rfl; have hcz12_1 : w11.cell? ⟨gb183, 1, none⟩ = some (.int .i64 a0_1) := (blk_cell BK183.out 1).trans rfl; have hcz12_2 : w11.cell? ⟨gb183, 2, none⟩ = some (.int .i64 a0_2) := (blk_cell BK183.out 2).trans rfl; have hcz12_3 : w11.cell? ⟨gb183, 3, none⟩ = some (.int .i64 a0_3) := (blk_cell BK183.out 3).trans rfl; have hcz12_4 : w11.cell? ⟨gb183, 4, none⟩ = some (.int .i64 a0_4) := (blk_cell BK183.out 4).trans rfl; have hfz12_0 := blk_frozen BK183.out 0; have hfz12_1 := blk_frozen BK183.out 1; have hfz12_2 := blk_frozen BK183.out 2; have hfz12_3 := blk_frozen BK183.out 3; have hfz12_4 := blk_frozen BK183.out 4) | ((with_reducible refine gate_callee (f := 153) rfl ?_); refine goesL_ (some 5) rfl rfl Try.func153 (by kernel_rfl) rfl #[.int .i64 a0_0] rfl ag_ ?_; (with_reducible refine (impl_isKind.calls a0_0 true _ A2.out).mono ?_); rintro e w' ⟨rfl, ⟨nd, rfl⟩⟩; refine ⟨_, rfl, ?_⟩) | (go_at_call 154; (with_reducible refine (impl_isPlace.calls a0_1 a0_2 true _ A4.out).mono ?_); rintro e w' ⟨rfl, ⟨nd, rfl⟩⟩) | (go_at_call 130; (with_reducible refine (impl_within.calls a0_3 1 (wrap64 (100000 - a0_1)) false _ A6.out).mono ?_); rintro e w' ⟨rfl, ⟨nd, rfl⟩⟩))
    go_ret
    exact ⟨by first | rfl | (simp [errW_none, errW_some] <;> rfl) | (simp [*, errW_none, errW_some] <;> rfl), r1_ HB.out GE183.out⟩
  ·replace c5 := Bool.eq_false_iff.mpr c5
   subst c5
   replace H : (some false) = some r := by rw [if_neg (show ¬ (false = true) by decide)] at H; exact H
   obtain rfl := Option.some.inj H
   go_enter Try.func108, Try.ntmps108
   go_wp2_with (first | ((with_reducible refine gate_dst (N := 1) rfl ?_); refine box_event ?hg (N := 1) ?hd (cs := #[.int .i64 a0_0, .int .i64 a0_1, .int .i64 a0_2, .int .i64 a0_3, .int .i64 a0_4]) (t := 83) ?hr ?_; (case hd => rfl); (case hg => rfl); (case hr => first | (go_simp; done) | (go_simp; rfl)); intro gb183 hg w13 hbox hb; have BK183 := Aside0.mk (hbox); have GW183 := Aside0.mk ((by rw [hg]; exact (below_size (bl_ HB.out)) : w.heap.size ≤ gb183)); have GE183 := Aside0.mk ((by rw [hg]; exact (below_size (bl_ HB.out)) : w.heap.size ≤ gb183)); replace HB := Aside0.mk (below_step (bl_ HB.out) hb); clear hb hbox hg; have hcz14_0 : w13.cell? ⟨gb183, 0, none⟩ = some (.int .i64 a0_0) := (blk_cell BK183.out 0).trans rfl; have hcz14_1 : w13.cell? ⟨gb183, 1, none⟩ = some (.int .i64 a0_1) := (blk_cell BK183.out 1).trans rfl; have hcz14_2 : w13.cell? ⟨gb183, 2, none⟩ = some (.int .i64 a0_2) := (blk_cell BK183.out 2).trans rfl; have hcz14_3 : w13.cell? ⟨gb183, 3, none⟩ = some (.int .i64 a0_3) := (blk_cell BK183.out 3).trans rfl; have hcz14_4 : w13.cell? ⟨gb183, 4, none⟩ = some (.int .i64 a0_4) := (blk_cell BK183.out 4).trans rfl; have hfz14_0 := blk_frozen BK183.out 0; have hfz14_1 := blk_frozen BK183.out 1; have hfz14_2 := blk_frozen BK183.out 2; have hfz14_3 := blk_frozen BK183.out 3; have hfz14_4 := blk_frozen BK183.out 4) | ((with_reducible refine gate_callee (f := 153) rfl ?_); refine goesL_ (some 5) rfl rfl Try.func153 (by kernel_rfl) rfl #[.int .i64 a0_0] rfl ag_ ?_; (with_reducible refine (impl_isKind.calls a0_0 true _ A2.out).mono ?_); rintro e w' ⟨rfl, ⟨nd, rfl⟩⟩; refine ⟨_, rfl, ?_⟩) | (go_at_call 154; (with_reducible refine (impl_isPlace.calls a0_1 a0_2 false _ A4.out).mono ?_); rintro e w' ⟨rfl, ⟨nd, rfl⟩⟩))
   go_ret
   exact ⟨by first | rfl | (simp [errW_none, errW_some] <;> rfl) | (simp [*, errW_none, errW_some] <;> rfl), r1_ HB.out GE183.out⟩
 ·replace c3 := Bool.eq_false_iff.mpr c3
  subst c3
  replace H : (some false) = some r := by rw [if_neg (show ¬ (false = true) by decide)] at H; exact H
  obtain rfl := Option.some.inj H
  go_enter Try.func108, Try.ntmps108
  go_wp2_with (first | ((with_reducible refine gate_dst (N := 1) rfl ?_); refine box_event ?hg (N := 1) ?hd (cs := #[.int .i64 a0_0, .int .i64 a0_1, .int .i64 a0_2, .int .i64 a0_3, .int .i64 a0_4]) (t := 83) ?hr ?_; (case hd => rfl); (case hg => rfl); (case hr => first | (go_simp; done) | (go_simp; rfl)); intro gb183 hg w15 hbox hb; have BK183 := Aside0.mk (hbox); have GW183 := Aside0.mk ((by rw [hg]; exact (below_size (bl_ HB.out)) : w.heap.size ≤ gb183)); have GE183 := Aside0.mk ((by rw [hg]; exact (below_size (bl_ HB.out)) : w.heap.size ≤ gb183)); replace HB := Aside0.mk (below_step (bl_ HB.out) hb); clear hb hbox hg; have hcz16_0 : w15.cell? ⟨gb183, 0, none⟩ = some (.int .i64 a0_0) := (blk_cell BK183.out 0).trans rfl; have hcz16_1 : w15.cell? ⟨gb183, 1, none⟩ = some (.int .i64 a0_1) := (blk_cell BK183.out 1).trans rfl; have hcz16_2 : w15.cell? ⟨gb183, 2, none⟩ = some (.int .i64 a0_2) := (blk_cell BK183.out 2).trans rfl; have hcz16_3 : w15.cell? ⟨gb183, 3, none⟩ = some (.int .i64 a0_3) := (blk_cell BK183.out 3).trans rfl; have hcz16_4 : w15.cell? ⟨gb183, 4, none⟩ = some (.int .i64 a0_4) := (blk_cell BK183.out 4).trans rfl; have hfz16_0 := blk_frozen BK183.out 0; have hfz16_1 := blk_frozen BK183.out 1; have hfz16_2 := blk_frozen BK183.out 2; have hfz16_3 := blk_frozen BK183.out 3; have hfz16_4 := blk_frozen BK183.out 4) | ((with_reducible refine gate_callee (f := 153) rfl ?_); refine goesL_ (some 5) rfl rfl Try.func153 (by kernel_rfl) rfl #[.int .i64 a0_0] rfl ag_ ?_; (with_reducible refine (impl_isKind.calls a0_0 false _ A2.out).mono ?_); rintro e w' ⟨rfl, ⟨nd, rfl⟩⟩; refine ⟨_, rfl, ?_⟩))
  go_ret
  exact ⟨by first | rfl | (simp [errW_none, errW_some] <;> rfl) | (simp [*, errW_none, errW_some] <;> rfl), r1_ HB.out GE183.out⟩
end Go.Proofs.Ytedcdhnbceaaeaa.PFnAreaTexts
