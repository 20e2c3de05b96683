/- QFnCircuitsc of the law FnCircuits: taken over, declaration by declaration, as far as the law leans on it (the words and the printed functions are the kit's own print). No condition but what each says. -/
import Derived.Test.YtmahecjbejffoaaZFnCircuitsav
import Derived.Test.YtmahecjbejffoaaZFnCircuitsaw
import Derived.Test.YtmahecjbejffoaaZFnCircuitsax
import Derived.Test.YtmahecjbejffoaaZFnCircuitsay
namespace Go.Proofs.Ytmahecjbejffoaa.PFnCircuits
open Go.RowKit Go.Proofs.YtmahecjbejffoaaW.PrintWords Go.Proofs.YtmahecjbejffoaaW.PrintLast Go.Proofs.YtmahecjbejffoaaW.PrintMore
attribute [local go_sem] max2_int min2_int max_two min_two max_three min_three max_four min_four   -- for this text's walks alone
set_option linter.unusedVariables false
set_option linter.unusedSimpArgs false
open Bool renaming true → t_, false → f_
def spec_l14Reading.j0 : Nat → Int → List Int → Int → Int → Option (Int × Int × Int)
 | 0, _, _, _, _ => none
 | k + 1, x5, x1000, x1001, x1002 => (spec_l01Next.f x1000 x1001 x1002 3000).bind fun bt172 => ((spec_l01Next.f x1000 bt172.2.1 bt172.2.2 100000).bind fun bt175 => ((spec_l01Pick.f x1000 bt175.2.1 bt175.2.2 (([0, 1000000000, 1000000001, (-1)] : List Int))).bind fun bt181 => ((spec_l01Pick.f x1000 bt181.2.1 bt181.2.2 (([x5, wrap64 (x5 + (wrap64 (Int.tdiv x5 10))), wrap64 (x5 - (wrap64 (Int.tdiv x5 10))), wrap64 ((wrap64 (x5 + (wrap64 (Int.tdiv x5 10)))) + 1), bt172.1, wrap64 (10 * x5), wrap64 ((wrap64 (10 * x5)) - 1), bt175.1, bt181.1] : List Int))).bind fun bt187 => (some (bt187.1, bt187.2.1, bt187.2.2)))))
def spec_l14Reading.f (k : Nat) (s0_0 : List Int) (s0_1 : Int) (s0_2 : Int) (a1_0 : Int) (l1_1 : List Int) : Option (Int × Int × Int) := (spec_IsCircuit.f k a1_0 l1_1).bind fun t170 => (if t170 = true then ((spec_l14Expected.f k a1_0 l1_1).bind fun t171 => (spec_l14Reading.j0 k t171 s0_0 s0_1 s0_2)) else (spec_l14Reading.j0 k 5000 s0_0 s0_1 s0_2))
set_option maxHeartbeats 8000000 in
set_option maxRecDepth 100000 in
theorem spec_l14Reading.calls (k : Nat) (g : Nat) (s0_0 : List Int) (s0_1 : Int) (s0_2 : Int) (a1_0 : Int) (A1_1 : Option Addr) (c1_1 : Nat) (l1_1 : List Int) (r1 : Int) (r2 : Int) (r3 : Int) (w0 w : World) (hI : IsS183 w0 w g s0_0 s0_1 s0_2) (hB : Below w0.heap.size w0 w) (hr1_1 : Kd.C (Kd.int .i64) w A1_1 l1_1.length l1_1) (hc1_1 : l1_1.length ≤ c1_1) (hf1_1 : ∀ ad, A1_1 = some ad → 0 < l1_1.length → ad.block ≠ g) (h : spec_l14Reading.f k s0_0 s0_1 s0_2 a1_0 l1_1 = some (r1, r2, r3)) :
  Calls Try.prog 98 #[.pointer (some ⟨g, 0, none⟩), .agg #[.int .i64 a1_0, .slice A1_1 l1_1.length c1_1]] w fun e w' => e = .returned (.int .i64 r1) ∧ IsS183 w0 w' g s0_0 r2 r3 ∧ Below w0.heap.size w0 w' ∧ KeepBut w w' g none := by
 have hu26 := Try.underlying26
 have HR1_1 := Aside0.mk hr1_1
 have HC1_1 := Aside0.mk hc1_1
 clear hr1_1 hc1_1
 have HI0 := Aside0.mk hI
 have HK := Aside0.mk (KeepBut.refl w g none)
 have HL := Aside0.mk hB.size
 clear hI
 have HW0 := Aside0.mk hB.size
 have HB := Aside0.mk hB
 clear hB
 have H : ((spec_IsCircuit.f k a1_0 l1_1).bind fun t170 => (if t170 = true then ((spec_l14Expected.f k a1_0 l1_1).bind fun t171 => (spec_l14Reading.j0 k t171 s0_0 s0_1 s0_2)) else (spec_l14Reading.j0 k 5000 s0_0 s0_1 s0_2))) = some (r1, r2, r3) := h
 clear h
 replace H := Option.bind_eq_some_iff.mp H
 obtain ⟨t170, A30, H⟩ := H
 replace H : (if t170 = true then ((spec_l14Expected.f k a1_0 l1_1).bind fun t171 => (spec_l14Reading.j0 k t171 s0_0 s0_1 s0_2)) else (spec_l14Reading.j0 k 5000 s0_0 s0_1 s0_2)) = some (r1, r2, r3) := H
 have A3 := Aside0.mk A30
 clear A30
 have HC4 := Aside0.mk H
 clear H
 go_enter Try.func98, Try.ntmps98
 go_upto_if 7 with (first | ((with_reducible refine gate_dst (N := 3) rfl ?_); refine box_event ?hg (N := 3) ?hd (cs := #[.int .i64 a1_0, .slice A1_1 l1_1.length c1_1]) (t := 26) ?hr ?_; (case hd => rfl); (case hg => rfl); (case hr => first | (go_simp; done) | (go_simp; rfl)); intro gb169 hg w5 hbox hb; replace HB := Aside0.mk (below_step (r7_ HB.out HI0.out) hb); have BK169 := Aside0.mk (hbox); have GW169 := Aside0.mk ((by rw [hg]; exact (keep_size (w := w) (g := g) (row := none) (r10_ HK.out)) : w.heap.size ≤ gb169)); have GE169 := Aside0.mk ((Nat.le_trans HW0.out (by rw [hg]; exact (keep_size (w := w) (g := g) (row := none) (r10_ HK.out)) : w.heap.size ≤ gb169) : w0.heap.size ≤ gb169)); replace HK := Aside0.mk (KeepBut.trans (r10_ HK.out) (KeepBut.of_below hb g none) (.inl rfl)); have NB0_169 := Aside0.mk ((by rw [hg]; exact Nat.ne_of_lt (IsS183.lt (show IsS183 w0 _ g s0_0 s0_1 s0_2 from r3_ HI0.out)) : g ≠ gb169)); have NB169_0 := Aside0.mk ((by rw [hg]; exact Nat.ne_of_gt (IsS183.lt (show IsS183 w0 _ g s0_0 s0_1 s0_2 from r3_ HI0.out)) : gb169 ≠ g)); replace HI0 := Aside0.mk (IsS183.below (r3_ HI0.out) hb); clear hb hbox hg; have hnb6 := NB169_0.out; have hnc6 := NB0_169.out; have hcz7_0 : w5.cell? ⟨gb169, 0, none⟩ = some (.int .i64 a1_0) := (blk_cell BK169.out 0).trans rfl; have hcz7_1 : w5.cell? ⟨gb169, 1, none⟩ = some (.slice A1_1 l1_1.length c1_1) := (blk_cell BK169.out 1).trans rfl; have hfz7_0 := blk_frozen BK169.out 0; have hfz7_1 := blk_frozen BK169.out 1) | ((with_reducible refine gate_callee (f := 106) rfl ?_); refine goesL_ (some 7) rfl rfl Try.func106 (by kernel_rfl) rfl #[.agg #[.int .i64 a1_0, .slice A1_1 l1_1.length c1_1]] rfl ag_ ?_; (with_reducible refine (spec_IsCircuit.calls k a1_0 _ _ l1_1 t170 _ ?side1 ?side2 A3.out).mono ?_); (case side1 => exact Kd.C_keep 0 HR1_1.out (r6_ HK.out GW169.out) hf1_1); (case side2 => exact HC1_1.out); rintro e w8 ⟨rfl, hb⟩; refine ⟨_, rfl, ?_⟩; replace BK169 := Aside0.mk (blk_below (g := gb169) (o := .cells #[.int .i64 a1_0, .slice A1_1 l1_1.length c1_1] 26 (0, 0)) (r0_ BK169.out) hb); replace HK := Aside0.mk (KeepBut.trans (r6_ HK.out GW169.out) (KeepBut.of_below hb g none) (.inl rfl)); replace HB := Aside0.mk (below_step (r5_ HB.out HI0.out GE169.out) hb); replace HI0 := Aside0.mk (IsS183.below (r2_ HI0.out NB0_169.out) hb); (try clear hb); (try clear hb2); (try clear hk); (try clear hi)))
 (try simp only [Act.put, List.setIfInBounds_toArray, List.set_cons_zero, List.set_cons_succ])
 go_cut [5] (fun v5 wc => ∃ (kq : Nat) (x5_3 : Int), v5 = .int .i64 x5_3 ∧ Aside0 (spec_l14Reading.j0 kq x5_3 s0_0 s0_1 s0_2 = some (r1, r2, r3)) ∧ Aside0 (kq ≤ k) ∧ Aside0 (wc.heap[gb169]? = some (.cells #[.int .i64 a1_0, (.slice A1_1 l1_1.length c1_1)] 26 (0, 0))) ∧ Aside0 (IsS183 w0 wc g s0_0 s0_1 s0_2) ∧ Aside0 (KeepBut w wc g none) ∧ Aside0 (Below w0.heap.size w0 wc))
 case first =>
  have H := HC4.out
  clear HC4
  by_cases c9 : t170 = true
  ·subst c9
   replace H : ((spec_l14Expected.f k a1_0 l1_1).bind fun t171 => (spec_l14Reading.j0 k t171 s0_0 s0_1 s0_2)) = some (r1, r2, r3) := by rw [if_pos rfl] at H; exact H
   replace H := Option.bind_eq_some_iff.mp H
   obtain ⟨t171, A100, H⟩ := H
   replace H : (spec_l14Reading.j0 k t171 s0_0 s0_1 s0_2) = some (r1, r2, r3) := H
   have A10 := Aside0.mk A100
   clear A100
   have H' := Aside0.mk H
   clear H
   have hnb11 := NB169_0.out
   have hnc11 := NB0_169.out
   have hcz12_0 : w8.cell? ⟨gb169, 0, none⟩ = some (.int .i64 a1_0) := (blk_cell BK169.out 0).trans rfl
   have hcz12_1 : w8.cell? ⟨gb169, 1, none⟩ = some (.slice A1_1 l1_1.length c1_1) := (blk_cell BK169.out 1).trans rfl
   have hfz12_0 := blk_frozen BK169.out 0
   have hfz12_1 := blk_frozen BK169.out 1
   go_wp2_with (first | ((with_reducible refine gate_callee (f := 107) rfl ?_); refine goesL_ (some 9) rfl rfl Try.func107 (by kernel_rfl) rfl #[.agg #[.int .i64 a1_0, .slice A1_1 l1_1.length c1_1]] rfl ag_ ?_; (with_reducible refine (spec_l14Expected.calls k a1_0 _ _ l1_1 t171 _ ?side1 ?side2 A10.out).mono ?_); (case side1 => exact Kd.C_keep 0 HR1_1.out (r6_ HK.out GW169.out) hf1_1); (case side2 => exact HC1_1.out); rintro e w13 ⟨rfl, hb⟩; refine ⟨_, rfl, ?_⟩; replace BK169 := Aside0.mk (blk_below (g := gb169) (o := .cells #[.int .i64 a1_0, .slice A1_1 l1_1.length c1_1] 26 (0, 0)) (r0_ BK169.out) hb); replace HK := Aside0.mk (KeepBut.trans (r6_ HK.out GW169.out) (KeepBut.of_below hb g none) (.inl rfl)); replace HB := Aside0.mk (below_step (r5_ HB.out HI0.out GE169.out) hb); replace HI0 := Aside0.mk (IsS183.below (r2_ HI0.out NB0_169.out) hb); (try clear hb); (try clear hb2); (try clear hk); (try clear hi)))
   go_meet
   case rel => exact ⟨_, (t171), (by first | rfl | (simp; done) | (simp [*]; done)), H', ⟨by first | omega | exact Nat.le_refl _⟩, ⟨r0_ BK169.out⟩, ⟨r2_ HI0.out NB0_169.out⟩, ⟨r6_ HK.out GW169.out⟩, ⟨r5_ HB.out HI0.out GE169.out⟩⟩
  ·replace c9 := Bool.eq_false_iff.mpr c9
   subst c9
   replace H : (spec_l14Reading.j0 k 5000 s0_0 s0_1 s0_2) = some (r1, r2, r3) := by rw [if_neg (show ¬ (false = true) by decide)] at H; exact H
   have H' := Aside0.mk H
   clear H
   go_wp2
   go_meet
   case rel => exact ⟨_, (5000), (by first | rfl | (simp; done) | (simp [*]; done)), H', ⟨by first | omega | exact Nat.le_refl _⟩, ⟨r0_ BK169.out⟩, ⟨r2_ HI0.out NB0_169.out⟩, ⟨r6_ HK.out GW169.out⟩, ⟨r5_ HB.out HI0.out GE169.out⟩⟩
 case rest =>
  clear HC4
  try clear c1
  try clear p2
  try clear c6
  try clear c9
  try clear c10
  try clear c11
  try clear hcz12_0
  try clear hcz12_1
  try clear hcz7_0
  try clear hcz7_1
  try clear hfz12_0
  try clear hfz12_1
  try clear hfz7_0
  try clear hfz7_1
  obtain ⟨kq, x5_3, rfl, HA, HJ3, BK169, HI0, HK, HB⟩ := hcut
  cases kq with
  | zero => exact absurd HA.out (by simp [spec_l14Reading.j0])
  | succ kj3 =>
   have H := HA.out
   clear HA
   simp only [spec_l14Reading.j0] at H
   replace H := Option.bind_eq_some_iff.mp H
   obtain ⟨⟨t172, t173, t174⟩, A140, H⟩ := H
   replace H : ((spec_l01Next.f s0_0 t173 t174 100000).bind fun bt175 => ((spec_l01Pick.f s0_0 bt175.2.1 bt175.2.2 (([0, 1000000000, 1000000001, (-1)] : List Int))).bind fun bt181 => ((spec_l01Pick.f s0_0 bt181.2.1 bt181.2.2 (([x5_3, wrap64 (x5_3 + (wrap64 (Int.tdiv x5_3 10))), wrap64 (x5_3 - (wrap64 (Int.tdiv x5_3 10))), wrap64 ((wrap64 (x5_3 + (wrap64 (Int.tdiv x5_3 10)))) + 1), t172, wrap64 (10 * x5_3), wrap64 ((wrap64 (10 * x5_3)) - 1), bt175.1, bt181.1] : List Int))).bind fun bt187 => (some (bt187.1, bt187.2.1, bt187.2.2))))) = some (r1, r2, r3) := H
   have A14 := Aside0.mk A140
   clear A140
   replace H := Option.bind_eq_some_iff.mp H
   obtain ⟨⟨t175, t176, t177⟩, A150, H⟩ := H
   replace H : ((spec_l01Pick.f s0_0 t176 t177 (([0, 1000000000, 1000000001, (-1)] : List Int))).bind fun bt181 => ((spec_l01Pick.f s0_0 bt181.2.1 bt181.2.2 (([x5_3, wrap64 (x5_3 + (wrap64 (Int.tdiv x5_3 10))), wrap64 (x5_3 - (wrap64 (Int.tdiv x5_3 10))), wrap64 ((wrap64 (x5_3 + (wrap64 (Int.tdiv x5_3 10)))) + 1), t172, wrap64 (10 * x5_3), wrap64 ((wrap64 (10 * x5_3)) - 1), t175, bt181.1] : List Int))).bind fun bt187 => (some (bt187.1, bt187.2.1, bt187.2.2)))) = some (r1, r2, r3) := H
   have A15 := Aside0.mk A150
   clear A150
   obtain ⟨y178, hy178⟩ : ∃ y_ : List Int, y_ = (([0, 1000000000, 1000000001, (-1)] : List Int)) := ⟨_, rfl⟩
   replace H : ((spec_l01Pick.f s0_0 t176 t177 y178).bind fun bt181 => ((spec_l01Pick.f s0_0 bt181.2.1 bt181.2.2 (([x5_3, wrap64 (x5_3 + (wrap64 (Int.tdiv x5_3 10))), wrap64 (x5_3 - (wrap64 (Int.tdiv x5_3 10))), wrap64 ((wrap64 (x5_3 + (wrap64 (Int.tdiv x5_3 10)))) + 1), t172, wrap64 (10 * x5_3), wrap64 ((wrap64 (10 * x5_3)) - 1), t175, bt181.1] : List Int))).bind fun bt187 => (some (bt187.1, bt187.2.1, bt187.2.2)))) = some (r1, r2, r3) := by first | (rw [hy178]; with_reducible exact H) | (have H2_ := (Option.bind_some _ _).symm.trans H; rw [hy178]; with_reducible exact H2_) | (have H2_ := (Option.bind_some _ _).symm.trans H; with_reducible exact H2_) | with_reducible exact H | (rw [hy178]; exact H) | exact H
   have Ny178 := Aside0.mk hy178
   clear hy178
   replace H := Option.bind_eq_some_iff.mp H
   obtain ⟨⟨t181, t182, t183⟩, A160, H⟩ := H
   replace H : ((spec_l01Pick.f s0_0 t182 t183 (([x5_3, wrap64 (x5_3 + (wrap64 (Int.tdiv x5_3 10))), wrap64 (x5_3 - (wrap64 (Int.tdiv x5_3 10))), wrap64 ((wrap64 (x5_3 + (wrap64 (Int.tdiv x5_3 10)))) + 1), t172, wrap64 (10 * x5_3), wrap64 ((wrap64 (10 * x5_3)) - 1), t175, t181] : List Int))).bind fun bt187 => (some (bt187.1, bt187.2.1, bt187.2.2))) = some (r1, r2, r3) := H
   have A16 := Aside0.mk A160
   clear A160
   obtain ⟨y184, hy184⟩ : ∃ y_ : List Int, y_ = (([x5_3, wrap64 (x5_3 + (wrap64 (Int.tdiv x5_3 10))), wrap64 (x5_3 - (wrap64 (Int.tdiv x5_3 10))), wrap64 ((wrap64 (x5_3 + (wrap64 (Int.tdiv x5_3 10)))) + 1), t172, wrap64 (10 * x5_3), wrap64 ((wrap64 (10 * x5_3)) - 1), t175, t181] : List Int)) := ⟨_, rfl⟩
   replace H : ((spec_l01Pick.f s0_0 t182 t183 y184).bind fun bt187 => (some (bt187.1, bt187.2.1, bt187.2.2))) = some (r1, r2, r3) := by first | (rw [hy184]; with_reducible exact H) | (have H2_ := (Option.bind_some _ _).symm.trans H; rw [hy184]; with_reducible exact H2_) | (have H2_ := (Option.bind_some _ _).symm.trans H; with_reducible exact H2_) | with_reducible exact H | (rw [hy184]; exact H) | exact H
   have Ny184 := Aside0.mk hy184
   clear hy184
   replace H := Option.bind_eq_some_iff.mp H
   obtain ⟨⟨t187, t188, t189⟩, A170, H⟩ := H
   replace H : (some (t187, t188, t189)) = some (r1, r2, r3) := H
   have A17 := Aside0.mk A170
   clear A170
   simp only [Option.some.injEq, Prod.mk.injEq] at H
   obtain ⟨rfl, rfl, rfl⟩ := H
   go_wp2_with (first | ((with_reducible refine gate_callee (f := 108) rfl ?_); refine goesL_ (some 26) rfl rfl Try.func108 (by kernel_rfl) rfl #[.pointer (some ⟨g, 0, none⟩), .int .i64 3000] rfl ag_ ?_; (with_reducible refine (spec_l01Next.calls g s0_0 s0_1 s0_2 3000 t172 t173 t174 w0 _ ?side1 ?side2 A14.out).mono ?_); (case side1 => exact r2_ HI0.out NB0_169.out); (case side2 => exact r5_ HB.out HI0.out GE169.out); rintro e w18 ⟨rfl, hi, hb, hk⟩; refine ⟨_, rfl, ?_⟩; replace BK169 := Aside0.mk (KeepBut.blk hk (g' := gb169) (o := .cells #[.int .i64 a1_0, .slice A1_1 l1_1.length c1_1] 26 (0, 0)) (r0_ BK169.out) NB169_0.out (by simp)); replace HK := Aside0.mk (KeepBut.trans (r6_ HK.out GW169.out) hk (.inl rfl)); replace HB := Aside0.mk (hb); replace HI0 := Aside0.mk (hi); (try clear hb); (try clear hb2); (try clear hk); (try clear hi)) | ((with_reducible refine gate_callee (f := 108) rfl ?_); refine goesL_ (some 33) rfl rfl Try.func108 (by kernel_rfl) rfl #[.pointer (some ⟨g, 0, none⟩), .int .i64 100000] rfl ag_ ?_; (with_reducible refine (spec_l01Next.calls g s0_0 t173 t174 100000 t175 t176 t177 w0 _ ?side1 ?side2 A15.out).mono ?_); (case side1 => exact r2_ HI0.out NB0_169.out); (case side2 => exact r5_ HB.out HI0.out GE169.out); rintro e w19 ⟨rfl, hi, hb, hk⟩; refine ⟨_, rfl, ?_⟩; replace BK169 := Aside0.mk (KeepBut.blk hk (g' := gb169) (o := .cells #[.int .i64 a1_0, .slice A1_1 l1_1.length c1_1] 26 (0, 0)) (r0_ BK169.out) NB169_0.out (by simp)); replace HK := Aside0.mk (KeepBut.trans (r6_ HK.out GW169.out) hk (.inl rfl)); replace HB := Aside0.mk (hb); replace HI0 := Aside0.mk (hi); (try clear hb); (try clear hb2); (try clear hk); (try clear hi)) | ((with_reducible refine gate_dst (N := 35) rfl ?_); refine Kd.R_lit (Kd.int .i64) _ 2 ?hg (N := 35) ?hd (xs := ([0, 1000000000, 1000000001, (-1)] : List Int)) (inner := [.int .i64 0, .int .i64 1000000000, .int .i64 1000000001, .int .i64 (-1)]) (ok := fun _ => True) (okp := fun _ => True) ?hr ?hp (fun _ hk => hk) trivial (Below.refl _ _) (Nat.le_refl _) (by simp) ?_; (case hd => rfl); (case hg => rfl); (case hr => first | (go_simp; done) | (go_simp; rfl)); (case hp => exact (Reps.one (show Kd.M (Kd.int .i64) _ _ _ 0 [.int .i64 0] from rfl) (Reps.one (show Kd.M (Kd.int .i64) _ _ _ 1000000000 [.int .i64 1000000000] from rfl) (Reps.one (show Kd.M (Kd.int .i64) _ _ _ 1000000001 [.int .i64 1000000001] from rfl) (Reps.one (show Kd.M (Kd.int .i64) _ _ _ (-1) [.int .i64 (-1)] from rfl) (Reps.none _ _)))))); intro v179 w20 ho21 hb hg_ hnew_; clear hg_ hnew_; (first | rw [← Ny178.out] at ho21 | (simp only [Int.reduceToNat] at ho21; rw [← Ny178.out] at ho21)); have HO180 := Aside0.mk (Kd.R_lower ho21 (keep_size (w := w) (g := g) (row := none) (r6_ HK.out GW169.out))); replace BK169 := Aside0.mk (blk_below (g := gb169) (o := .cells #[.int .i64 a1_0, .slice A1_1 l1_1.length c1_1] 26 (0, 0)) (r0_ BK169.out) hb); replace HK := Aside0.mk (KeepBut.trans (r6_ HK.out GW169.out) (KeepBut.of_below hb g none) (.inl rfl)); replace HB := Aside0.mk (below_step (r5_ HB.out HI0.out GE169.out) hb); replace HI0 := Aside0.mk (IsS183.below (r2_ HI0.out NB0_169.out) hb); clear hb ho21; obtain ⟨Ao22, co22, eo22⟩ := Kd.R_slice HO180.out; subst eo22) | ((with_reducible refine gate_callee (f := 99) rfl ?_); refine goesL_ (some 36) rfl rfl Try.func99 (by kernel_rfl) rfl #[.pointer (some ⟨g, 0, none⟩), .slice Ao22 y178.length co22] rfl ag_ ?_; (with_reducible refine (spec_l01Pick.calls g s0_0 t176 t177 _ _ y178 t181 t182 t183 w0 _ ?side1 ?side2 ?side3 ?side4 ?side5 A16.out).mono ?_); (case side1 => exact r2_ HI0.out NB0_169.out); (case side2 => exact r5_ HB.out HI0.out GE169.out); (case side3 => exact r11_ HO180.out); (case side4 => exact (Kd.R_reads' HO180.out).2.1); (case side5 => exact far_slice (IsS183.own_ne HI0.out HO180.out (by decide))); rintro e w23 ⟨rfl, hi, hb, hk⟩; refine ⟨_, rfl, ?_⟩; replace BK169 := Aside0.mk (KeepBut.blk hk (g' := gb169) (o := .cells #[.int .i64 a1_0, .slice A1_1 l1_1.length c1_1] 26 (0, 0)) (r0_ BK169.out) NB169_0.out (by simp)); replace HO180 := Aside0.mk (Kd.R_mono (Kd.R_keep (IsS183.apart (show IsS183 w0 _ g s0_0 t176 t177 from r2_ HI0.out NB0_169.out) (rk_ HO180.out) (by decide)) hk (fun _ h => h.2)) (fun _ h => h.1)); replace HK := Aside0.mk (KeepBut.trans (r6_ HK.out GW169.out) hk (.inl rfl)); replace HB := Aside0.mk (hb); replace HI0 := Aside0.mk (hi); (try clear hb); (try clear hb2); (try clear hk); (try clear hi)) | ((with_reducible refine gate_dst (N := 37) rfl ?_); refine Kd.R_lit (Kd.int .i64) _ 2 ?hg (N := 37) ?hd (xs := ([x5_3, wrap64 (x5_3 + (wrap64 (Int.tdiv x5_3 10))), wrap64 (x5_3 - (wrap64 (Int.tdiv x5_3 10))), wrap64 ((wrap64 (x5_3 + (wrap64 (Int.tdiv x5_3 10)))) + 1), t172, wrap64 (10 * x5_3), wrap64 ((wrap64 (10 * x5_3)) - 1), t175, t181] : List Int)) (inner := [.int .i64 x5_3, .int .i64 (wrap64 (x5_3 + (wrap64 (Int.tdiv x5_3 10)))), .int .i64 (wrap64 (x5_3 - (wrap64 (Int.tdiv x5_3 10)))), .int .i64 (wrap64 ((wrap64 (x5_3 + (wrap64 (Int.tdiv x5_3 10)))) + 1)), .int .i64 t172, .int .i64 (wrap64 (10 * x5_3)), .int .i64 (wrap64 ((wrap64 (10 * x5_3)) - 1)), .int .i64 t175, .int .i64 t181]) (ok := fun _ => True) (okp := fun _ => True) ?hr ?hp (fun _ hk => hk) trivial (Below.refl _ _) (Nat.le_refl _) (by simp) ?_; (case hd => rfl); (case hg => rfl); (case hr => first | (go_simp; done) | (go_simp; rfl)); (case hp => exact (Reps.one (show Kd.M (Kd.int .i64) _ _ _ x5_3 [.int .i64 x5_3] from rfl) (Reps.one (show Kd.M (Kd.int .i64) _ _ _ (wrap64 (x5_3 + (wrap64 (Int.tdiv x5_3 10)))) [.int .i64 (wrap64 (x5_3 + (wrap64 (Int.tdiv x5_3 10))))] from rfl) (Reps.one (show Kd.M (Kd.int .i64) _ _ _ (wrap64 (x5_3 - (wrap64 (Int.tdiv x5_3 10)))) [.int .i64 (wrap64 (x5_3 - (wrap64 (Int.tdiv x5_3 10))))] from rfl) (Reps.one (show Kd.M (Kd.int .i64) _ _ _ (wrap64 ((wrap64 (x5_3 + (wrap64 (Int.tdiv x5_3 10)))) + 1)) [.int .i64 (wrap64 ((wrap64 (x5_3 + (wrap64 (Int.tdiv x5_3 10)))) + 1))] from rfl) (Reps.one (show Kd.M (Kd.int .i64) _ _ _ t172 [.int .i64 t172] from rfl) (Reps.one (show Kd.M (Kd.int .i64) _ _ _ (wrap64 (10 * x5_3)) [.int .i64 (wrap64 (10 * x5_3))] from rfl) (Reps.one (show Kd.M (Kd.int .i64) _ _ _ (wrap64 ((wrap64 (10 * x5_3)) - 1)) [.int .i64 (wrap64 ((wrap64 (10 * x5_3)) - 1))] from rfl) (Reps.one (show Kd.M (Kd.int .i64) _ _ _ t175 [.int .i64 t175] from rfl) (Reps.one (show Kd.M (Kd.int .i64) _ _ _ t181 [.int .i64 t181] from rfl) (Reps.none _ _))))))))))); intro v185 w24 ho25 hb hg_ hnew_; clear hg_ hnew_; (first | rw [← Ny184.out] at ho25 | (simp only [Int.reduceToNat] at ho25; rw [← Ny184.out] at ho25)); have HO186 := Aside0.mk (Kd.R_lower (Kd.R_new' ho25 (Kd.R_lt (rk_ HO180.out))) (keep_size (w := w) (g := g) (row := none) (r6_ HK.out GW169.out))); replace HO180 := Aside0.mk (Kd.R_elder' (rk_ HO180.out) (Kd.R_base ho25) hb); replace BK169 := Aside0.mk (blk_below (g := gb169) (o := .cells #[.int .i64 a1_0, .slice A1_1 l1_1.length c1_1] 26 (0, 0)) (r0_ BK169.out) hb); replace HK := Aside0.mk (KeepBut.trans (r6_ HK.out GW169.out) (KeepBut.of_below hb g none) (.inl rfl)); replace HB := Aside0.mk (below_step (r5_ HB.out HI0.out GE169.out) hb); replace HI0 := Aside0.mk (IsS183.below (r2_ HI0.out NB0_169.out) hb); clear hb ho25; obtain ⟨Ao26, co26, eo26⟩ := Kd.R_slice HO186.out; subst eo26) | ((with_reducible refine gate_callee (f := 99) rfl ?_); refine goesL_ (some 38) rfl rfl Try.func99 (by kernel_rfl) rfl #[.pointer (some ⟨g, 0, none⟩), .slice Ao26 y184.length co26] rfl ag_ ?_; (with_reducible refine (spec_l01Pick.calls g s0_0 t182 t183 _ _ y184 t187 t188 t189 w0 _ ?side1 ?side2 ?side3 ?side4 ?side5 A17.out).mono ?_); (case side1 => exact r2_ HI0.out NB0_169.out); (case side2 => exact r5_ HB.out HI0.out GE169.out); (case side3 => exact r11_ HO186.out); (case side4 => exact (Kd.R_reads' HO186.out).2.1); (case side5 => exact far_slice (IsS183.own_ne HI0.out HO186.out (by decide))); rintro e w27 ⟨rfl, hi, hb, hk⟩; refine ⟨_, rfl, ?_⟩; replace BK169 := Aside0.mk (KeepBut.blk hk (g' := gb169) (o := .cells #[.int .i64 a1_0, .slice A1_1 l1_1.length c1_1] 26 (0, 0)) (r0_ BK169.out) NB169_0.out (by simp)); replace HO180 := Aside0.mk (Kd.R_mono (Kd.R_keep (IsS183.apart (show IsS183 w0 _ g s0_0 t182 t183 from r2_ HI0.out NB0_169.out) (rk_ HO180.out) (by decide)) hk (fun _ h => h.2)) (fun _ h => h.1)); replace HO186 := Aside0.mk (Kd.R_mono (Kd.R_keep (IsS183.apart (show IsS183 w0 _ g s0_0 t182 t183 from r2_ HI0.out NB0_169.out) (rk_ HO186.out) (by decide)) hk (fun _ h => h.2)) (fun _ h => h.1)); replace HK := Aside0.mk (KeepBut.trans (r6_ HK.out GW169.out) hk (.inl rfl)); replace HB := Aside0.mk (hb); replace HI0 := Aside0.mk (hi); (try clear hb); (try clear hb2); (try clear hk); (try clear hi)))
   go_ret
   exact ⟨by first | rfl | (simp [errW_none, errW_some] <;> rfl) | (simp [*, errW_none, errW_some] <;> rfl), r2_ HI0.out NB0_169.out, r5_ HB.out HI0.out GE169.out, r6_ HK.out GW169.out⟩
def spec_DrawStateOf.f (k : Nat) (l0 : List Int) : Option (Int × List Int × Int × Int) := (spec_l01From.f k l0).bind fun bt191 => ((spec_l14Draw.f k bt191.1 bt191.2.1 bt191.2.2).bind fun bt195 => ((spec_l14Reading.f k bt191.1 bt195.2.2.1 bt195.2.2.2 bt195.1 bt195.2.1).bind fun bt202 => ((spec_l01Pick.f bt191.1 bt202.2.1 bt202.2.2 (([10, 10, 5, 0, 100, 101, (-1)] : List Int))).bind fun bt208 => (some (bt195.1, bt195.2.1, bt202.1, bt208.1)))))
def spec_DrawStateOf.T3 : Bool × List (List Nat × List Nat) := (true, [([], []), ([], []), ([], []), ([1, 2], [1, 2]), ([], []), ([], []), ([4, 5, 3], [4, 5]), ([0, 6, 0], [0]), ([3, 7, 0, 1, 2, 3, 7], [3]), ([6, 8, 0, 1, 2, 3, 4, 5, 6, 7, 8], [6])])
def spec_DrawStateOf.B3 : List Nat := [0, 0, 0, 6, 0, 0, 62, 127, 255, 511]
theorem spec_DrawStateOf.tab3 : rtab .any (opsOf Try.f16 3) = spec_DrawStateOf.T3 := by kernel_rfl
theorem spec_DrawStateOf.bits3 : waitsOk spec_DrawStateOf.T3.2 spec_DrawStateOf.B3 = true := by kernel_rfl
set_option maxHeartbeats 8000000 in
set_option maxRecDepth 100000 in
theorem spec_DrawStateOf.calls (k : Nat) (A0 : Option Addr) (c0 : Nat) (l0 : List Int) (r1 : Int) (r2 : List Int) (r3 : Int) (r4 : Int) (w : World) (hr0 : Kd.C (Kd.int .u8) w A0 l0.length l0) (hc0 : l0.length ≤ c0) (h : spec_DrawStateOf.f k l0 = some (r1, r2, r3, r4)) :
  Calls Try.prog 16 #[.slice A0 l0.length c0] w fun e w' => ∃ v1_ : Value, e = .returned (.tuple #[.agg #[.int .i64 r1, v1_], .int .i64 r3, .int .i64 r4]) ∧ Kd.R (Kd.int .i64) 2 w' w.heap.size (fun _ => True) v1_ r2 ∧ Below w.heap.size w w' := by
 have hu26 := Try.underlying26
 have HR0 := Aside0.mk hr0
 have HC0 := Aside0.mk hc0
 clear hr0 hc0
 have HB := Aside0.mk (Below.refl w.heap.size w)
 have H : ((spec_l01From.f k l0).bind fun bt191 => ((spec_l14Draw.f k bt191.1 bt191.2.1 bt191.2.2).bind fun bt195 => ((spec_l14Reading.f k bt191.1 bt195.2.2.1 bt195.2.2.2 bt195.1 bt195.2.1).bind fun bt202 => ((spec_l01Pick.f bt191.1 bt202.2.1 bt202.2.2 (([10, 10, 5, 0, 100, 101, (-1)] : List Int))).bind fun bt208 => (some (bt195.1, bt195.2.1, bt202.1, bt208.1)))))) = some (r1, r2, r3, r4) := h
 clear h
 replace H := Option.bind_eq_some_iff.mp H
 obtain ⟨⟨t191, t192, t193⟩, A20, H⟩ := H
 replace H : ((spec_l14Draw.f k t191 t192 t193).bind fun bt195 => ((spec_l14Reading.f k t191 bt195.2.2.1 bt195.2.2.2 bt195.1 bt195.2.1).bind fun bt202 => ((spec_l01Pick.f t191 bt202.2.1 bt202.2.2 (([10, 10, 5, 0, 100, 101, (-1)] : List Int))).bind fun bt208 => (some (bt195.1, bt195.2.1, bt202.1, bt208.1))))) = some (r1, r2, r3, r4) := H
 have A2 := Aside0.mk A20
 clear A20
 replace H := Option.bind_eq_some_iff.mp H
 obtain ⟨⟨t195, t196, t199, t200⟩, A30, H⟩ := H
 replace H : ((spec_l14Reading.f k t191 t199 t200 t195 t196).bind fun bt202 => ((spec_l01Pick.f t191 bt202.2.1 bt202.2.2 (([10, 10, 5, 0, 100, 101, (-1)] : List Int))).bind fun bt208 => (some (t195, t196, bt202.1, bt208.1)))) = some (r1, r2, r3, r4) := H
 have A3 := Aside0.mk A30
 clear A30
 replace H := Option.bind_eq_some_iff.mp H
 obtain ⟨⟨t202, t203, t204⟩, A40, H⟩ := H
 replace H : ((spec_l01Pick.f t191 t203 t204 (([10, 10, 5, 0, 100, 101, (-1)] : List Int))).bind fun bt208 => (some (t195, t196, t202, bt208.1))) = some (r1, r2, r3, r4) := H
 have A4 := Aside0.mk A40
 clear A40
 obtain ⟨y205, hy205⟩ : ∃ y_ : List Int, y_ = (([10, 10, 5, 0, 100, 101, (-1)] : List Int)) := ⟨_, rfl⟩
 replace H : ((spec_l01Pick.f t191 t203 t204 y205).bind fun bt208 => (some (t195, t196, t202, bt208.1))) = some (r1, r2, r3, r4) := by first | (rw [hy205]; with_reducible exact H) | (have H2_ := (Option.bind_some _ _).symm.trans H; rw [hy205]; with_reducible exact H2_) | (have H2_ := (Option.bind_some _ _).symm.trans H; with_reducible exact H2_) | with_reducible exact H | (rw [hy205]; exact H) | exact H
 have Ny205 := Aside0.mk hy205
 clear hy205
 replace H := Option.bind_eq_some_iff.mp H
 obtain ⟨⟨t208, t209, t210⟩, A50, H⟩ := H
 replace H : (some (t195, t196, t202, t208)) = some (r1, r2, r3, r4) := H
 have A5 := Aside0.mk A50
 clear A50
 simp only [Option.some.injEq, Prod.mk.injEq] at H
 obtain ⟨rfl, rfl, rfl, rfl⟩ := H
 go_enter Try.func16, Try.ntmps16
 try go_wp2_with (first | ((with_reducible refine gate_dst (N := 2) rfl ?_); refine box_event ?hg (N := 2) ?hd (cs := #[.int .i64 0, .slice none 0 0]) (t := 26) ?hr ?_; (case hd => rfl); (case hg => rfl); (case hr => first | (go_simp; done) | (go_simp; rfl)); intro gb190 hg w6 hbox hb; have BK190 := Aside0.mk (hbox); have GW190 := Aside0.mk ((by rw [hg]; exact (below_size (bl_ HB.out)) : w.heap.size ≤ gb190)); have GE190 := Aside0.mk ((by rw [hg]; exact (below_size (bl_ HB.out)) : w.heap.size ≤ gb190)); replace HB := Aside0.mk (below_step (bl_ HB.out) hb); clear hb hbox hg) | ((with_reducible refine gate_callee (f := 96) rfl ?_); refine goesL_ (some 8) rfl rfl Try.func96 (by kernel_rfl) rfl #[.slice A0 l0.length c0] rfl ag_ ?_; (with_reducible refine (spec_l01From.calls k _ _ l0 t191 t192 t193 w _ ?side1 ?side2 ?side3 A2.out).mono ?_); (case side1 => exact r1_ HB.out GE190.out); (case side2 => exact HR0.out); (case side3 => exact HC0.out); rintro e w7 ⟨g194, rfl, hi, hb, hb2⟩; refine ⟨_, rfl, ?_⟩; replace HB := Aside0.mk (hb); have HI194 := Aside0.mk (hi); have NB194_190 := Aside0.mk (IsS183.ne_blk hi (blk_below (g := gb190) (o := .cells #[.int .i64 0, .slice none 0 0] 26 (0, 0)) (r0_ BK190.out) hb2) (by decide)); have NB190_194 := Aside0.mk (Ne.symm (IsS183.ne_blk hi (blk_below (g := gb190) (o := .cells #[.int .i64 0, .slice none 0 0] 26 (0, 0)) (r0_ BK190.out) hb2) (by decide))); replace BK190 := Aside0.mk (blk_below (g := gb190) (o := .cells #[.int .i64 0, .slice none 0 0] 26 (0, 0)) (r0_ BK190.out) hb2); (try clear hb); (try clear hb2); (try clear hk); (try clear hi)) | ((with_reducible refine gate_callee (f := 97) rfl ?_); refine goesL_ (some 10) rfl rfl Try.func97 (by kernel_rfl) rfl #[.pointer (some ⟨g194, 0, none⟩)] rfl ag_ ?_; (with_reducible refine (spec_l14Draw.calls k g194 t191 t192 t193 t195 t196 t199 t200 w _ ?side1 ?side2 A3.out).mono ?_); (case side1 => exact r2_ HI194.out NB194_190.out); (case side2 => exact r5_ HB.out HI194.out GE190.out); rintro e w8 ⟨v197, rfl, ho0, hi, hb, hk⟩; refine ⟨_, rfl, ?_⟩; replace BK190 := Aside0.mk (KeepBut.blk hk (g' := gb190) (o := .cells #[.int .i64 0, .slice none 0 0] 26 (0, 0)) (r0_ BK190.out) NB190_194.out (by simp)); have HO198 := Aside0.mk (Kd.R_lower ho0 (below_size (r5_ HB.out HI194.out GE190.out))); replace HB := Aside0.mk (hb); replace HI194 := Aside0.mk (hi); (try clear hb); (try clear hb2); (try clear hk); (try clear hi); (try clear ho0)) | ((with_reducible refine gate_dst (N := 6) rfl ?_); refine box_event ?hg (N := 6) ?hd (cs := #[.int .i64 0, .slice none 0 0]) (t := 26) ?hr ?_; (case hd => rfl); (case hg => rfl); (case hr => first | (go_simp; done) | (go_simp; rfl)); intro gb201 hg w9 hbox hb; replace HO198 := Aside0.mk (Kd.R_below (rk_ HO198.out) hb); have BK201 := Aside0.mk (hbox); have GW201 := Aside0.mk ((by rw [hg]; exact (below_size (r5_ HB.out HI194.out GE190.out)) : w.heap.size ≤ gb201)); have GE201 := Aside0.mk ((by rw [hg]; exact (below_size (r5_ HB.out HI194.out GE190.out)) : w.heap.size ≤ gb201)); replace HB := Aside0.mk (below_step (r5_ HB.out HI194.out GE190.out) hb); have NB190_201 := Aside0.mk ((by rw [hg]; exact Nat.ne_of_lt (blk_lt (g := gb190) (o := .cells #[.int .i64 0, .slice none 0 0] 26 (0, 0)) (r0_ BK190.out)) : gb190 ≠ gb201)); have NB201_190 := Aside0.mk ((by rw [hg]; exact Nat.ne_of_gt (blk_lt (g := gb190) (o := .cells #[.int .i64 0, .slice none 0 0] 26 (0, 0)) (r0_ BK190.out)) : gb201 ≠ gb190)); replace BK190 := Aside0.mk (blk_below (g := gb190) (o := .cells #[.int .i64 0, .slice none 0 0] 26 (0, 0)) (r0_ BK190.out) hb); have NB194_201 := Aside0.mk ((by rw [hg]; exact Nat.ne_of_lt (IsS183.lt (show IsS183 w _ g194 t191 t199 t200 from r2_ HI194.out NB194_190.out)) : g194 ≠ gb201)); have NB201_194 := Aside0.mk ((by rw [hg]; exact Nat.ne_of_gt (IsS183.lt (show IsS183 w _ g194 t191 t199 t200 from r2_ HI194.out NB194_190.out)) : gb201 ≠ g194)); replace HI194 := Aside0.mk (IsS183.below (r2_ HI194.out NB194_190.out) hb); clear hb hbox hg; have hnb10 := NB201_190.out; have hnc10 := NB190_201.out; have hnb11 := NB201_194.out; have hnc11 := NB194_201.out; have hcz12_0 : w9.cell? ⟨gb201, 0, none⟩ = some (.int .i64 0) := (blk_cell BK201.out 0).trans rfl; have hcz12_1 : w9.cell? ⟨gb201, 1, none⟩ = some (.slice none 0 0) := (blk_cell BK201.out 1).trans rfl; have hfz12_0 := blk_frozen BK201.out 0; have hfz12_1 := blk_frozen BK201.out 1; obtain ⟨Ao13, co13, eo13⟩ := Kd.R_slice HO198.out; subst eo13))
 have n0_ : Aside0 (Kd.R (Kd.int .i64) 2 ((w9.setCell ⟨gb201, 0, none⟩ (.int .i64 t195)).setCell ⟨gb201, 1, none⟩ (.slice Ao13 t196.length co13)) w.heap.size (fun _ => True) (.slice Ao13 t196.length co13) t196) := ⟨rk_ (Kd.R_mono (Kd.R_far (p := ⟨gb201, 1, none⟩) (Kd.R_far (p := ⟨gb201, 0, none⟩) (Kd.R_types HO198.out BK201.out (by decide)) (fun _ hk => hk.2) (.int .i64 t195)) (fun _ hk => hk.2) (.slice Ao13 t196.length co13)) (fun _ hk => trivial))⟩
 have n1_ : Aside0 (((w9.setCell ⟨gb201, 0, none⟩ (.int .i64 t195)).setCell ⟨gb201, 1, none⟩ (.slice Ao13 t196.length co13)).heap[gb190]? = some (.cells #[.int .i64 0, .slice none 0 0] 26 (0, 0))) := ⟨r12_ NB190_201.out BK190.out⟩
 have n2_ : Aside0 (((w9.setCell ⟨gb201, 0, none⟩ (.int .i64 t195)).setCell ⟨gb201, 1, none⟩ (.slice Ao13 t196.length co13)).heap[gb201]? = some (.cells #[.int .i64 t195, .slice Ao13 t196.length co13] 26 (0, 0))) := ⟨by (with_reducible repeat (first | refine blk_drewN ?_ _ | refine blk_drew ?_ | refine blk_alloc ?_ _)); refine blk_put (cs := #[.int .i64 t195, .slice none 0 0]) ?_ 1 _ rfl; (with_reducible repeat (first | refine blk_drewN ?_ _ | refine blk_drew ?_ | refine blk_alloc ?_ _)); refine blk_put (cs := #[.int .i64 0, .slice none 0 0]) ?_ 0 _ rfl; (with_reducible repeat (first | refine blk_drewN ?_ _ | refine blk_drew ?_ | refine blk_alloc ?_ _)); exact BK201.out⟩
 have n3_ : Aside0 (IsS183 w ((w9.setCell ⟨gb201, 0, none⟩ (.int .i64 t195)).setCell ⟨gb201, 1, none⟩ (.slice Ao13 t196.length co13)) g194 t191 t199 t200) := ⟨r4_ HI194.out NB194_190.out NB194_201.out⟩
 have n4_ : Aside0 (Below w.heap.size w ((w9.setCell ⟨gb201, 0, none⟩ (.int .i64 t195)).setCell ⟨gb201, 1, none⟩ (.slice Ao13 t196.length co13))) := ⟨by repeat (first | (with_reducible first | exact HB.out | apply below_alloc | apply pw_below_drewN | apply below_drew1 | refine below_set ?_ (IsS183.ge HI194.out) | refine below_set ?_ GE190.out | refine below_set ?_ GE201.out) | exact HB.out)⟩
 (try clear HO198)
 (try clear BK190)
 (try clear BK201)
 (try clear HI194)
 (try clear HB)
 generalize ((w9.setCell ⟨gb201, 0, none⟩ (.int .i64 t195)).setCell ⟨gb201, 1, none⟩ (.slice Ao13 t196.length co13)) = w14 at n0_ n1_ n2_ n3_ n4_ ⊢
 have HO198 := n0_
 have BK190 := n1_
 have BK201 := n2_
 have HI194 := n3_
 have HB := n4_
 clear n0_ n1_ n2_ n3_ n4_
 replace HO198 := Aside0.mk (Kd.R_drew HO198.out)
 replace BK190 := Aside0.mk (blk_drew BK190.out)
 replace BK201 := Aside0.mk (blk_drew BK201.out)
 replace HI194 := Aside0.mk (IsS183.drew HI194.out)
 replace HB := Aside0.mk (below_drew1 HB.out)
 refine start_ (n := 10) (S := fun w' => True) (ds := []) #[f_,f_,f_,f_,f_,f_,f_,f_,f_,f_] (by kernel_rfl) rfl rfl trivial (fun hHeld => ?_); refine with_tabW spec_DrawStateOf.tab3 spec_DrawStateOf.bits3 (fun HT_ HW_ => ?_)
 generalize w14.drew = w15 at HO198 BK190 BK201 HI194 HB hHeld ⊢
 refine pu_ 1 12 #[f_,t_,f_,f_,f_,f_,f_,f_,f_,f_] HT_.out ?_
 refine pu_ 4 15 #[f_,t_,f_,f_,t_,f_,f_,f_,f_,f_] HT_.out ?_
 refine inv_at [0, 2, 3, 5, 6, 7, 8, 9] (fun a0_ b a w' => ∃ (v206 : Value), a = putSel a0_ b [(0, 11, .agg #[.int .i64 t195, .slice Ao13 t196.length co13]), (2, 13, .agg #[.int .i64 t195, .slice Ao13 t196.length co13]), (3, 14, .int .i64 t202), (5, 16, v206), (6, 17, .int .i64 t208), (8, 3, .int .i64 t202), (9, 4, .int .i64 t208)] ∧ (Kd.R (Kd.int .i64) 2 w' w.heap.size (fun _ => True) (.slice Ao13 t196.length co13) t196) ∧ (b 7 = false → w'.heap[gb190]? = some (.cells #[.int .i64 0, .slice none 0 0] 26 (0, 0))) ∧ (w'.heap[gb201]? = some (.cells #[.int .i64 t195, .slice Ao13 t196.length co13] 26 (0, 0))) ∧ (b 3 = false → IsS183 w w' g194 t191 t199 t200) ∧ (Below w.heap.size w w') ∧ (b 3 = true → b 6 = false → IsS183 w w' g194 t191 t203 t204) ∧ (b 5 = true → Kd.R (Kd.int .i64) 2 w' w.heap.size (fun k_ => some k_ ≠ (.slice Ao13 t196.length co13 : Value).ownBlock) v206 y205) ∧ (b 6 = true → IsS183 w w' g194 t191 t209 t210) ∧ (b 7 = true → w'.heap[gb190]? = some (.cells #[.int .i64 t195, .slice Ao13 t196.length co13] 26 (0, 0)))) HT_.out HW_.out (by kernel_rfl) (by kernel_rfl) ?_ ?_ ?_
 ·exact ⟨.bool false, by simp only [putSel, Bool.false_eq_true, if_false], HO198.out, fun _ => BK190.out, BK201.out, fun _ => HI194.out, HB.out, fun h_ => absurd h_ (by decide), fun h_ => absurd h_ (by decide), fun h_ => absurd h_ (by decide), fun h_ => absurd h_ (by decide)⟩
 ·skip
  clear BK190 BK201 HB HI194 HO198
  refine steps_cons ?_ ?_
  ·rintro b a w' ⟨v206, ha, Q_HO198, Q_BK190, Q_BK201, Q_HI194, Q_HB, Q_HI194_e3, Q_HO207, Q_HI194_e6, Q_BK190_e7⟩ hb_ hon hoff
   refine ⟨_, rfl, fun K hK => ?_⟩
   have e6 : a.tmps[6]? = some (.pointer (some ⟨gb201, 0, none⟩)) := by rw [ha]; exact (putSel_off rfl).trans rfl
   replace ha := Aside0.mk ha
   have HO198 := Aside0.mk Q_HO198
   have BK190 := Aside0.mk (Q_BK190 (hoff 7 (by kernel_rfl)))
   have BK201 := Aside0.mk Q_BK201
   have HB := Aside0.mk Q_HB
   have hc0_ : w'.cell? ⟨gb201, 0, none⟩ = some (.int .i64 t195) := (blk_cell BK201.out 0).trans rfl
   have hc1_ : w'.cell? ⟨gb201, 1, none⟩ = some (.slice Ao13 t196.length co13) := (blk_cell BK201.out 1).trans rfl
   refine value_ (w1 := w') (v := .agg #[.int .i64 t195, .slice Ao13 t196.length co13]) (by rfl) rfl ?_ ?_
   ·go_simp
    (try simp only [i64_w])
    try rfl
   refine hK.out _ _ ⟨v206, (by rw [ha.out]; exact putSel_upk 0 hb_ rfl rfl rfl), Q_HO198, Q_BK190, Q_BK201, Q_HI194, Q_HB, Q_HI194_e3, Q_HO207, Q_HI194_e6, fun h0_ => absurd ((hoff 7 (by kernel_rfl)).symm.trans h0_) (by decide)⟩
  refine steps_cons ?_ ?_
  ·rintro b a w' ⟨v206, ha, Q_HO198, Q_BK190, Q_BK201, Q_HI194, Q_HB, Q_HI194_e3, Q_HO207, Q_HI194_e6, Q_BK190_e7⟩ hb_ hon hoff
   refine ⟨_, rfl, fun K hK => ?_⟩
   have e6 : a.tmps[6]? = some (.pointer (some ⟨gb201, 0, none⟩)) := by rw [ha]; exact (putSel_off rfl).trans rfl
   replace ha := Aside0.mk ha
   have HO198 := Aside0.mk Q_HO198
   have BK190 := Aside0.mk (Q_BK190 (hoff 7 (by kernel_rfl)))
   have BK201 := Aside0.mk Q_BK201
   have HI194 := Aside0.mk (Q_HI194 (hoff 3 (by kernel_rfl)))
   have HB := Aside0.mk Q_HB
   have hc0_ : w'.cell? ⟨gb201, 0, none⟩ = some (.int .i64 t195) := (blk_cell BK201.out 0).trans rfl
   have hc1_ : w'.cell? ⟨gb201, 1, none⟩ = some (.slice Ao13 t196.length co13) := (blk_cell BK201.out 1).trans rfl
   refine value_ (w1 := w') (v := .agg #[.int .i64 t195, .slice Ao13 t196.length co13]) (by rfl) rfl ?_ ?_
   ·go_simp
    (try simp only [i64_w])
    try rfl
   refine hK.out _ _ ⟨v206, (by rw [ha.out]; exact putSel_upk 1 hb_ rfl rfl rfl), Q_HO198, Q_BK190, Q_BK201, Q_HI194, Q_HB, fun h0_ _ => absurd ((hoff 3 (by kernel_rfl)).symm.trans h0_) (by decide), Q_HO207, fun h0_ => absurd ((hoff 6 (by kernel_rfl)).symm.trans h0_) (by decide), fun h0_ => absurd ((hoff 7 (by kernel_rfl)).symm.trans h0_) (by decide)⟩
  refine steps_cons ?_ ?_
  ·rintro b a w' ⟨v206, ha, Q_HO198, Q_BK190, Q_BK201, Q_HI194, Q_HB, Q_HI194_e3, Q_HO207, Q_HI194_e6, Q_BK190_e7⟩ hb_ hon hoff
   refine ⟨_, rfl, fun K hK => ?_⟩
   have e12 : a.tmps[12]? = some (.pointer (some ⟨g194, 0, none⟩)) := by rw [ha]; exact (putSel_off rfl).trans rfl
   have e13 : a.tmps[13]? = some (.agg #[.int .i64 t195, .slice Ao13 t196.length co13]) := by rw [ha]; exact putSel_on (e := (2, 13, .agg #[.int .i64 t195, .slice Ao13 t196.length co13])) 1 rfl rfl (hon 2 (by kernel_rfl)) rfl
   replace ha := Aside0.mk ha
   have HO198 := Aside0.mk Q_HO198
   have BK190 := Aside0.mk (Q_BK190 (hoff 7 (by kernel_rfl)))
   have BK201 := Aside0.mk Q_BK201
   have HI194 := Aside0.mk (Q_HI194 hb_)
   have HB := Aside0.mk Q_HB
   refine goes_ Try.func98 (by kernel_rfl) rfl #[.pointer (some ⟨g194, 0, none⟩), .agg #[.int .i64 t195, .slice Ao13 t196.length co13]] (by rfl) rfl rfl (by first | (simp only [List.map_toArray, List.map_cons, List.map_nil, Act.eval, Array.getD_eq_getD_getElem?, Option.getD_some, e12, e13]; done) | (simp only [List.map_toArray, List.map_cons, List.map_nil, Act.eval, Array.getD_eq_getD_getElem?, Option.getD_some, e12, e13]; rfl)) ?_
   with_reducible refine (spec_l14Reading.calls k g194 t191 t199 t200 t195 _ _ t196 t202 t203 t204 w _ ?side1 ?side2 ?side3 ?side4 ?side5 A4.out).mono ?_
   (case side1 => exact r4_ HI194.out NB194_190.out NB194_201.out)
   (case side2 => repeat (first | (with_reducible first | exact HB.out | apply below_alloc | apply pw_below_drewN | apply below_drew1 | refine below_set ?_ (IsS183.ge HI194.out) | refine below_set ?_ GE190.out | refine below_set ?_ GE201.out) | exact HB.out))
   (case side3 => exact r11_ HO198.out)
   (case side4 => exact (Kd.R_reads' HO198.out).2.1)
   (case side5 => exact far_slice (IsS183.own_ne HI194.out HO198.out (by decide)))
   rintro e w16 ⟨rfl, hi, hb, hk⟩
   refine ⟨_, rfl, ?_⟩
   have n0_ := Aside0.mk (KeepBut.blk hk (g' := gb190) (o := .cells #[.int .i64 0, .slice none 0 0] 26 (0, 0)) (r0_ BK190.out) NB190_194.out (by simp))
   have n1_ := Aside0.mk (Kd.R_mono (Kd.R_keep (IsS183.apart (show IsS183 w _ g194 t191 t199 t200 from r4_ HI194.out NB194_190.out NB194_201.out) (rk_ HO198.out) (by decide)) hk (fun _ h => h.2)) (fun _ h => h.1))
   have n2_ := Aside0.mk (KeepBut.blk hk (g' := gb201) (o := .cells #[.int .i64 t195, .slice Ao13 t196.length co13] 26 (0, 0)) (r0_ BK201.out) NB201_194.out (by simp))
   have n3_ := Aside0.mk (hb)
   have n4_ := Aside0.mk (hi)
   have z_HO207 := fun (h0_ : b 5 = true) => (show Kd.R (Kd.int .i64) 2 w16 w.heap.size (fun k_ => some k_ ≠ (.slice Ao13 t196.length co13 : Value).ownBlock) v206 y205 from by first | exact (Kd.R_mono (Kd.R_keep (IsS183.apart (show IsS183 w _ g194 t191 t199 t200 from r4_ HI194.out NB194_190.out NB194_201.out) (rk_ ((Q_HO207 h0_))) (by decide)) hk (fun _ h => h.2)) (fun _ h => h.1)) | exact Kd.R_mono (Kd.R_mono (Kd.R_keep (IsS183.apart (show IsS183 w _ g194 t191 t199 t200 from r4_ HI194.out NB194_190.out NB194_201.out) (rk_ ((Q_HO207 h0_))) (by decide)) hk (fun _ h => h.2)) (fun _ h => h.1)) (fun _ h_ => by first | trivial | exact h_ | exact h_.1))
   clear BK190
   clear HO198
   clear BK201
   clear HB
   clear HI194
   have BK190 := n0_
   have HO198 := n1_
   have BK201 := n2_
   have HB := n3_
   have HI194 := n4_
   clear n0_ n1_ n2_ n3_ n4_
   (try clear hb)
   (try clear hb2)
   (try clear hk)
   (try clear hi)
   refine hK.out _ _ ⟨v206, (by rw [ha.out]; exact putSel_upk 2 hb_ rfl rfl rfl), (rk_ HO198.out), fun _ => (r0_ BK190.out), (r0_ BK201.out), fun h0_ => absurd ((up_self b 3).symm.trans h0_) (by decide), (by repeat (first | (with_reducible first | exact HB.out | apply below_alloc | apply pw_below_drewN | apply below_drew1 | refine below_set ?_ (IsS183.ge HI194.out) | refine below_set ?_ GE190.out | refine below_set ?_ GE201.out) | exact HB.out)), fun _ _ => (r4_ HI194.out NB194_190.out NB194_201.out), z_HO207, fun h0_ => absurd ((hoff 6 (by kernel_rfl)).symm.trans h0_) (by decide), fun h0_ => absurd ((hoff 7 (by kernel_rfl)).symm.trans h0_) (by decide)⟩
  refine steps_cons ?_ ?_
  ·rintro b a w' ⟨v206, ha, Q_HO198, Q_BK190, Q_BK201, Q_HI194, Q_HB, Q_HI194_e3, Q_HO207, Q_HI194_e6, Q_BK190_e7⟩ hb_ hon hoff
   refine ⟨_, rfl, fun K hK => ?_⟩
   replace ha := Aside0.mk ha
   have HO198 := Aside0.mk Q_HO198
   have BK190 := Aside0.mk (Q_BK190 (hoff 7 (by kernel_rfl)))
   have BK201 := Aside0.mk Q_BK201
   have HB := Aside0.mk Q_HB
   refine Kd.R_lit_step (Kd.int .i64) _ 2 ?hg (N := 16) ?hd (xs := ([10, 10, 5, 0, 100, 101, (-1)] : List Int)) (inner := [.int .i64 10, .int .i64 10, .int .i64 5, .int .i64 0, .int .i64 100, .int .i64 101, .int .i64 (-1)]) (ok := fun _ => True) (okp := fun _ => True) ?hr ?hp (fun _ hk => hk) trivial (Below.refl _ _) (Nat.le_refl _) (by simp) ?_; (case hd => rfl); (case hg => rfl); (case hr => first | (go_simp; done) | (go_simp; rfl)); (case hp => exact (Reps.one (show Kd.M (Kd.int .i64) _ _ _ 10 [.int .i64 10] from rfl) (Reps.one (show Kd.M (Kd.int .i64) _ _ _ 10 [.int .i64 10] from rfl) (Reps.one (show Kd.M (Kd.int .i64) _ _ _ 5 [.int .i64 5] from rfl) (Reps.one (show Kd.M (Kd.int .i64) _ _ _ 0 [.int .i64 0] from rfl) (Reps.one (show Kd.M (Kd.int .i64) _ _ _ 100 [.int .i64 100] from rfl) (Reps.one (show Kd.M (Kd.int .i64) _ _ _ 101 [.int .i64 101] from rfl) (Reps.one (show Kd.M (Kd.int .i64) _ _ _ (-1) [.int .i64 (-1)] from rfl) (Reps.none _ _)))))))))
   intro v206 w16 ho17 hb hg_ hnew_
   clear hg_ hnew_
   (first | rw [← Ny205.out] at ho17 | (simp only [Int.reduceToNat] at ho17; rw [← Ny205.out] at ho17))
   have n0_ := Aside0.mk (Kd.R_elder' (rk_ HO198.out) (Kd.R_base ho17) hb)
   have n1_ := Aside0.mk (Kd.R_lower (Kd.R_new' ho17 (Kd.R_lt (rk_ HO198.out))) (below_size (r14_ HB.out GE190.out GE201.out)))
   have n2_ := Aside0.mk (blk_below (g := gb190) (o := .cells #[.int .i64 0, .slice none 0 0] 26 (0, 0)) (r0_ BK190.out) hb)
   have n4_ := Aside0.mk (blk_below (g := gb201) (o := .cells #[.int .i64 t195, .slice Ao13 t196.length co13] 26 (0, 0)) (r0_ BK201.out) hb)
   have n5_ := Aside0.mk (below_step (r14_ HB.out GE190.out GE201.out) hb)
   have z_HI194 := fun (h0_ : b 3 = false) => (show IsS183 w w16 g194 t191 t199 t200 from by first | exact (IsS183.below (by repeat (first | (with_reducible first | exact (Q_HI194 h0_) | apply IsS183.alloc | apply IsS183.drewN | apply IsS183.drew | apply IsS183.set_1 | apply IsS183.set_2 | refine IsS183.far ?_ NB194_190.out _ | refine IsS183.far ?_ NB194_201.out _) | exact (Q_HI194 h0_))) hb))
   have z_HI194_e3 := fun (h0_ : b 3 = true) (h1_ : b 6 = false) => (show IsS183 w w16 g194 t191 t203 t204 from by first | exact (IsS183.below (by repeat (first | (with_reducible first | exact (Q_HI194_e3 h0_ h1_) | apply IsS183.alloc | apply IsS183.drewN | apply IsS183.drew | apply IsS183.set_1 | apply IsS183.set_2 | refine IsS183.far ?_ NB194_190.out _ | refine IsS183.far ?_ NB194_201.out _) | exact (Q_HI194_e3 h0_ h1_))) hb))
   clear HO198
   clear BK190
   clear BK201
   clear HB
   have HO198 := n0_
   have HO207 := n1_
   have BK190 := n2_
   have BK201 := n4_
   have HB := n5_
   clear n0_ n1_ n2_ n4_ n5_
   clear hb ho17
   refine hK.out _ _ ⟨v206, (by rw [ha.out]; exact putSel_upk 3 hb_ rfl rfl rfl), (rk_ (Kd.R_mono HO198.out (fun _ hk => trivial))), fun _ => (r0_ BK190.out), (r0_ BK201.out), z_HI194, (r14_ HB.out GE190.out GE201.out), z_HI194_e3, fun _ => (rk_ (Kd.R_mono HO207.out (fun _ hk => hk.2))), fun h0_ => absurd ((hoff 6 (by kernel_rfl)).symm.trans h0_) (by decide), fun h0_ => absurd ((hoff 7 (by kernel_rfl)).symm.trans h0_) (by decide)⟩
  refine steps_cons ?_ ?_
  ·rintro b a w' ⟨v206, ha, Q_HO198, Q_BK190, Q_BK201, Q_HI194, Q_HB, Q_HI194_e3, Q_HO207, Q_HI194_e6, Q_BK190_e7⟩ hb_ hon hoff
   refine ⟨_, rfl, fun K hK => ?_⟩
   have e15 : a.tmps[15]? = some (.pointer (some ⟨g194, 0, none⟩)) := by rw [ha]; exact (putSel_off rfl).trans rfl
   have e16 : a.tmps[16]? = some (v206) := by rw [ha]; exact putSel_on (e := (5, 16, v206)) 3 rfl rfl (hon 5 (by kernel_rfl)) rfl
   replace ha := Aside0.mk ha
   have HO198 := Aside0.mk Q_HO198
   have BK190 := Aside0.mk (Q_BK190 (hoff 7 (by kernel_rfl)))
   have BK201 := Aside0.mk Q_BK201
   have HB := Aside0.mk Q_HB
   have HI194 := Aside0.mk (Q_HI194_e3 (hon 3 (by kernel_rfl)) hb_)
   have HO207 := Aside0.mk (Q_HO207 (hon 5 (by kernel_rfl)))
   obtain ⟨Ao20, co20, eo20⟩ := Kd.R_slice HO207.out
   (first | subst eo20 | (injection eo20 with f1_ f2_ f3_; have f4_ := f1_.symm; have f5_ := f3_.symm; clear f1_ f2_ f3_; subst f4_; subst f5_))
   refine goes_ Try.func99 (by kernel_rfl) rfl #[.pointer (some ⟨g194, 0, none⟩), .slice Ao20 y205.length co20] (by rfl) rfl rfl (by first | (simp only [List.map_toArray, List.map_cons, List.map_nil, Act.eval, Array.getD_eq_getD_getElem?, Option.getD_some, e15, e16]; done) | (simp only [List.map_toArray, List.map_cons, List.map_nil, Act.eval, Array.getD_eq_getD_getElem?, Option.getD_some, e15, e16]; rfl)) ?_
   with_reducible refine (spec_l01Pick.calls g194 t191 t203 t204 _ _ y205 t208 t209 t210 w _ ?side1 ?side2 ?side3 ?side4 ?side5 A5.out).mono ?_
   (case side1 => exact r4_ HI194.out NB194_190.out NB194_201.out)
   (case side2 => repeat (first | (with_reducible first | exact HB.out | apply below_alloc | apply pw_below_drewN | apply below_drew1 | refine below_set ?_ (IsS183.ge HI194.out) | refine below_set ?_ GE190.out | refine below_set ?_ GE201.out) | exact HB.out))
   (case side3 => exact r11_ HO207.out)
   (case side4 => exact (Kd.R_reads' HO207.out).2.1)
   (case side5 => exact far_slice (IsS183.own_ne HI194.out HO207.out (by decide)))
   rintro e w21 ⟨rfl, hi, hb, hk⟩
   refine ⟨_, rfl, ?_⟩
   replace BK190 := Aside0.mk (KeepBut.blk hk (g' := gb190) (o := .cells #[.int .i64 0, .slice none 0 0] 26 (0, 0)) (r0_ BK190.out) NB190_194.out (by simp))
   replace HO198 := Aside0.mk (Kd.R_mono (Kd.R_keep (IsS183.apart (show IsS183 w _ g194 t191 t203 t204 from r4_ HI194.out NB194_190.out NB194_201.out) (rk_ HO198.out) (by decide)) hk (fun _ h => h.2)) (fun _ h => h.1))
   replace BK201 := Aside0.mk (KeepBut.blk hk (g' := gb201) (o := .cells #[.int .i64 t195, .slice Ao13 t196.length co13] 26 (0, 0)) (r0_ BK201.out) NB201_194.out (by simp))
   replace HO207 := Aside0.mk (Kd.R_mono (Kd.R_keep (IsS183.apart (show IsS183 w _ g194 t191 t203 t204 from r4_ HI194.out NB194_190.out NB194_201.out) (rk_ HO207.out) (by decide)) hk (fun _ h => h.2)) (fun _ h => h.1))
   replace HB := Aside0.mk (hb)
   replace HI194 := Aside0.mk (hi)
   (try clear hb)
   (try clear hb2)
   (try clear hk)
   (try clear hi)
   refine hK.out _ _ ⟨.slice Ao20 y205.length co20, (by rw [ha.out]; exact putSel_upk 4 hb_ rfl rfl rfl), (rk_ HO198.out), fun _ => (r0_ BK190.out), (r0_ BK201.out), fun h0_ => absurd ((hon 3 (by kernel_rfl)).symm.trans h0_) (by decide), (by repeat (first | (with_reducible first | exact HB.out | apply below_alloc | apply pw_below_drewN | apply below_drew1 | refine below_set ?_ (IsS183.ge HI194.out) | refine below_set ?_ GE190.out | refine below_set ?_ GE201.out) | exact HB.out)), fun _ h1_ => absurd ((up_self b 6).symm.trans h1_) (by decide), fun _ => (rk_ HO207.out), fun _ => (r4_ HI194.out NB194_190.out NB194_201.out), fun h0_ => absurd ((hoff 7 (by kernel_rfl)).symm.trans h0_) (by decide)⟩
  refine steps_cons ?_ ?_
  ·rintro b a w' ⟨v206, ha, Q_HO198, Q_BK190, Q_BK201, Q_HI194, Q_HB, Q_HI194_e3, Q_HO207, Q_HI194_e6, Q_BK190_e7⟩ hb_ hon hoff
   refine ⟨_, rfl, fun K hK => ?_⟩
   have e2 : a.tmps[2]? = some (.pointer (some ⟨gb190, 0, none⟩)) := by rw [ha]; exact (putSel_off rfl).trans rfl
   have e11 : a.tmps[11]? = some (.agg #[.int .i64 t195, .slice Ao13 t196.length co13]) := by rw [ha]; exact putSel_on (e := (0, 11, .agg #[.int .i64 t195, .slice Ao13 t196.length co13])) 0 rfl rfl (hon 0 (by kernel_rfl)) rfl
   replace ha := Aside0.mk ha
   have HO198 := Aside0.mk Q_HO198
   have BK190 := Aside0.mk (Q_BK190 hb_)
   have BK201 := Aside0.mk Q_BK201
   have HB := Aside0.mk Q_HB
   have HO207 := Aside0.mk (Q_HO207 (hon 5 (by kernel_rfl)))
   have HI194 := Aside0.mk (Q_HI194_e6 (hon 6 (by kernel_rfl)))
   have hs22 : w'.cell? ⟨gb190, 0, none⟩ = some (.int .i64 0) := (blk_cell BK190.out 0).trans rfl
   have hfs22 := blk_frozen BK190.out 0
   have hns22_1 := NB201_190.out
   have hms22_1 := NB190_201.out
   have hs23 : w'.cell? ⟨gb190, 1, none⟩ = some (.slice none 0 0) := (blk_cell BK190.out 1).trans rfl
   have hfs23 := blk_frozen BK190.out 1
   have hns23_1 := NB201_190.out
   have hms23_1 := NB190_201.out
   refine skip_ (w1 := ?_) (by rfl) rfl ?_ ?_
   rotate_left
   ·go_simp
    rfl
   refine hK.out _ _ ⟨v206, (by rw [ha.out]; exact putSel_none (v := undef) rfl), (rk_ (Kd.R_mono (Kd.R_far (p := ⟨gb190, 1, none⟩) (Kd.R_far (p := ⟨gb190, 0, none⟩) (Kd.R_types HO198.out BK190.out (by decide)) (fun _ hk => hk.2) (.int .i64 t195)) (fun _ hk => hk.2) (.slice Ao13 t196.length co13)) (fun _ hk => hk.1))), fun h0_ => absurd ((up_self b 7).symm.trans h0_) (by decide), (r12_ NB201_190.out BK201.out), fun h0_ => absurd ((hon 3 (by kernel_rfl)).symm.trans h0_) (by decide), (by repeat (first | (with_reducible first | exact HB.out | apply below_alloc | apply pw_below_drewN | apply below_drew1 | refine below_set ?_ (IsS183.ge HI194.out) | refine below_set ?_ GE190.out | refine below_set ?_ GE201.out) | exact HB.out)), fun _ h1_ => absurd ((hon 6 (by kernel_rfl)).symm.trans h1_) (by decide), fun _ => (rk_ (Kd.R_mono (Kd.R_far (p := ⟨gb190, 1, none⟩) (Kd.R_far (p := ⟨gb190, 0, none⟩) (Kd.R_types HO207.out BK190.out (by decide)) (fun _ hk => hk.2) (.int .i64 t195)) (fun _ hk => hk.2) (.slice Ao13 t196.length co13)) (fun _ hk => hk.1))), fun _ => (r4_ HI194.out NB194_190.out NB194_201.out), fun _ => (by (with_reducible repeat (first | refine blk_drewN ?_ _ | refine blk_drew ?_ | refine blk_alloc ?_ _)); refine blk_put (cs := #[.int .i64 t195, .slice none 0 0]) ?_ 1 _ rfl; (with_reducible repeat (first | refine blk_drewN ?_ _ | refine blk_drew ?_ | refine blk_alloc ?_ _)); refine blk_put (cs := #[.int .i64 0, .slice none 0 0]) ?_ 0 _ rfl; (with_reducible repeat (first | refine blk_drewN ?_ _ | refine blk_drew ?_ | refine blk_alloc ?_ _)); exact BK190.out)⟩
  refine steps_cons ?_ ?_
  ·rintro b a w' ⟨v206, ha, Q_HO198, Q_BK190, Q_BK201, Q_HI194, Q_HB, Q_HI194_e3, Q_HO207, Q_HI194_e6, Q_BK190_e7⟩ hb_ hon hoff
   refine ⟨_, rfl, fun K hK => ?_⟩
   have e14 : a.tmps[14]? = some (.int .i64 t202) := by rw [ha]; exact putSel_on (e := (3, 14, .int .i64 t202)) 2 rfl rfl (hon 3 (by kernel_rfl)) rfl
   replace ha := Aside0.mk ha
   have HO198 := Aside0.mk Q_HO198
   have BK201 := Aside0.mk Q_BK201
   have HB := Aside0.mk Q_HB
   have HO207 := Aside0.mk (Q_HO207 (hon 5 (by kernel_rfl)))
   have HI194 := Aside0.mk (Q_HI194_e6 (hon 6 (by kernel_rfl)))
   have BK190 := Aside0.mk (Q_BK190_e7 (hon 7 (by kernel_rfl)))
   refine value_ (w1 := w') (v := .int .i64 t202) (by rfl) rfl ?_ ?_
   ·go_simp
    (try simp only [i64_w])
    try rfl
   refine hK.out _ _ ⟨v206, (by rw [ha.out]; exact putSel_upk 5 hb_ rfl rfl rfl), Q_HO198, fun h0_ => absurd ((hon 7 (by kernel_rfl)).symm.trans h0_) (by decide), Q_BK201, fun h0_ => absurd ((hon 3 (by kernel_rfl)).symm.trans h0_) (by decide), Q_HB, fun _ h1_ => absurd ((hon 6 (by kernel_rfl)).symm.trans h1_) (by decide), Q_HO207, Q_HI194_e6, Q_BK190_e7⟩
  refine steps_cons ?_ ?_
  ·rintro b a w' ⟨v206, ha, Q_HO198, Q_BK190, Q_BK201, Q_HI194, Q_HB, Q_HI194_e3, Q_HO207, Q_HI194_e6, Q_BK190_e7⟩ hb_ hon hoff
   refine ⟨_, rfl, fun K hK => ?_⟩
   have e17 : a.tmps[17]? = some (.int .i64 t208) := by rw [ha]; exact putSel_on (e := (6, 17, .int .i64 t208)) 4 rfl rfl (hon 6 (by kernel_rfl)) rfl
   replace ha := Aside0.mk ha
   have HO198 := Aside0.mk Q_HO198
   have BK201 := Aside0.mk Q_BK201
   have HB := Aside0.mk Q_HB
   have HO207 := Aside0.mk (Q_HO207 (hon 5 (by kernel_rfl)))
   have HI194 := Aside0.mk (Q_HI194_e6 (hon 6 (by kernel_rfl)))
   have BK190 := Aside0.mk (Q_BK190_e7 (hon 7 (by kernel_rfl)))
   refine value_ (w1 := w') (v := .int .i64 t208) (by rfl) rfl ?_ ?_
   ·go_simp
    (try simp only [i64_w])
    try rfl
   refine hK.out _ _ ⟨v206, (by rw [ha.out]; exact putSel_upk 6 hb_ rfl rfl rfl), Q_HO198, fun h0_ => absurd ((hon 7 (by kernel_rfl)).symm.trans h0_) (by decide), Q_BK201, fun h0_ => absurd ((hon 3 (by kernel_rfl)).symm.trans h0_) (by decide), Q_HB, fun _ h1_ => absurd ((hon 6 (by kernel_rfl)).symm.trans h1_) (by decide), Q_HO207, Q_HI194_e6, Q_BK190_e7⟩
  exact steps_nil
 rintro b a w23 hall ⟨v206, ha, Q_HO198, Q_BK190, Q_BK201, Q_HI194, Q_HB, Q_HI194_e3, Q_HO207, Q_HI194_e6, Q_BK190_e7⟩
 clear BK190 BK201 HB HI194 HO198
 have hb0_ := hall 0 (by kernel_rfl)
 have hb2_ := hall 2 (by kernel_rfl)
 have hb3_ := hall 3 (by kernel_rfl)
 have hb5_ := hall 5 (by kernel_rfl)
 have hb6_ := hall 6 (by kernel_rfl)
 have hb7_ := hall 7 (by kernel_rfl)
 have hb8_ := hall 8 (by kernel_rfl)
 have hb9_ := hall 9 (by kernel_rfl)
 subst ha
 simp only [putSel, hb0_, hb2_, hb3_, hb5_, hb6_, hb7_, hb8_, hb9_, if_true, Act.put, List.setIfInBounds_toArray, List.set_cons_zero, List.set_cons_succ]
 have HO198 := Aside0.mk Q_HO198
 clear Q_HO198
 clear Q_BK190
 have BK201 := Aside0.mk Q_BK201
 clear Q_BK201
 clear Q_HI194
 have HB := Aside0.mk Q_HB
 clear Q_HB
 clear Q_HI194_e3
 have HO207 := Aside0.mk (Q_HO207 hb5_)
 clear Q_HO207
 have HI194 := Aside0.mk (Q_HI194_e6 hb6_)
 clear Q_HI194_e6
 have BK190 := Aside0.mk (Q_BK190_e7 hb7_)
 clear Q_BK190_e7
 clear hall hb0_ hb2_ hb3_ hb5_ hb6_ hb7_ hb8_ hb9_
 try go_wp2
 refine bodyPost_ret (results_ctt rfl _ _ gb190 26 #[.int .i64 t195, .slice Ao13 t196.length co13] (0, 0) _ rfl (r0_ BK190.out) Try.underlying26 rfl (by kernel_rfl)) rfl ?_
 exact ⟨_, by first | rfl | (simp [errW_none, errW_some] <;> rfl) | (simp [*, errW_none, errW_some] <;> rfl), rk_ (Kd.R_mono HO198.out (fun _ hk => trivial)), by repeat (first | (with_reducible first | exact HB.out | apply below_alloc | apply pw_below_drewN | apply below_drew1 | refine below_set ?_ (IsS183.ge HI194.out) | refine below_set ?_ GE190.out | refine below_set ?_ GE201.out) | exact HB.out)⟩
def impl_within.f (a0 : Int) (a1 : Int) (a2 : Int) : Option (Bool) := if a1 ≤ a0 then (some (decide (a0 ≤ a2))) else (some false)
set_option maxHeartbeats 8000000 in
set_option maxRecDepth 100000 in
theorem impl_within.calls (a0 : Int) (a1 : Int) (a2 : Int) (r : Bool) (w : World) (h : impl_within.f a0 a1 a2 = some r) :
    Calls Try.prog 101 #[.int .i64 a0, .int .i64 a1, .int .i64 a2] w fun e w' => e = .returned (.bool r) ∧ Drawn0 w w' := by
  have H : (if a1 ≤ a0 then (some (decide (a0 ≤ a2))) else (some false)) = some r := h
  clear h
  by_cases c4 : a1 ≤ a0
  · rw [if_pos c4] at H
    have c4b0 : decide (a1 ≤ a0) = true := decide_eq_true c4
    clear c4
    obtain rfl := Option.some.inj H
    go_enter Try.func101, Try.ntmps101
    go_wp2
    go_ret
    exact ⟨by first | rfl | (simp; done) | (simp [*]; done), by repeat (first | exact Drawn0.refl _ | apply Drawn0.step)⟩
  · rw [if_neg c4] at H
    have c4b0 : decide (a1 ≤ a0) = false := decide_eq_false c4
    clear c4
    obtain rfl := Option.some.inj H
    go_enter Try.func101, Try.ntmps101
    go_wp2
    go_ret
    exact ⟨by first | rfl | (simp; done) | (simp [*]; done), by repeat (first | exact Drawn0.refl _ | apply Drawn0.step)⟩
def impl_allWithin.l0 : Nat → Int → Int → List Int → Int → Int → Option (Bool)
  | 0, _, _, _, _, _ => none
  | k + 1, x1, x2, x9, x10, x11 => if x11 < x10 then (if 0 ≤ x11 then (if x11 < (x9.length : Int) then ((impl_within.f (rd x9 x11) x1 x2).bind fun t212 => (if t212 = true then (impl_allWithin.l0 k x1 x2 x9 x10 (wrap64 (x11 + 1))) else (some false))) else (none)) else (none)) else (some true)
def impl_allWithin.f (k : Nat) (l0 : List Int) (a1 : Int) (a2 : Int) : Option (Bool) := impl_allWithin.l0 k a1 a2 l0 (l0.length : Int) 0
set_option maxHeartbeats 8000000 in
set_option maxRecDepth 100000 in
theorem impl_allWithin.calls (k : Nat) (A0 : Option Addr) (c0 : Nat) (l0 : List Int) (a1 : Int) (a2 : Int) (r : Bool) (w : World) (hr0 : Kd.C (Kd.int .i64) w A0 l0.length l0) (hc0 : l0.length ≤ c0) (h : impl_allWithin.f k l0 a1 a2 = some r) :
    Calls Try.prog 110 #[.slice A0 l0.length c0, .int .i64 a1, .int .i64 a2] w fun e w' => e = .returned (.bool r) ∧ Drawn0 w w' := by
  have HR0 := Aside0.mk hr0
  have HC0 := Aside0.mk hc0
  clear hr0 hc0
  have H : (impl_allWithin.l0 k a1 a2 l0 (l0.length : Int) 0) = some r := h
  clear h
  have H' := Aside0.mk H
  clear H
  go_enter Try.func110, Try.ntmps110
  go_wp2
  go_loopg [11] k (fun kq v11 w' => ∃ (x11_1 : Int), v11 = .int .i64 x11_1 ∧ Aside0 (impl_allWithin.l0 kq a1 a2 l0 (l0.length : Int) x11_1 = some r) ∧ Aside0 (kq ≤ k) ∧ Drawn0 w w')
  case atStart => exact ⟨(0), (by first | rfl | (simp; done) | (simp [*]; done)), H', ⟨Nat.le_refl _⟩, by repeat (first | exact Drawn0.refl _ | apply Drawn0.step)⟩
  case round =>
    clear H'
    try clear c1
    try clear p2
    obtain ⟨x11_1, rfl, HA, HK1, ⟨m1, rfl⟩⟩ := hrel
    cases gk with
    | zero => exact absurd HA.out (by simp [impl_allWithin.l0])
    | succ k1 =>
      have H := HA.out
      clear HA
      simp only [impl_allWithin.l0] at H
      by_cases c4 : x11_1 < (l0.length : Int)
      · rw [if_pos c4] at H
        have c4b0 : decide (x11_1 < (l0.length : Int)) = true := decide_eq_true c4
        clear c4
        by_cases c5 : 0 ≤ x11_1
        · rw [if_pos c5] at H
          have c5b0 : decide (0 ≤ x11_1) = true := decide_eq_true c5
          clear c5
          by_cases c6 : x11_1 < (l0.length : Int)
          · rw [if_pos c6] at H
            have c6b0 : decide (x11_1 < (l0.length : Int)) = true := decide_eq_true c6
            clear c6
            replace H := Option.bind_eq_some_iff.mp H
            obtain ⟨t212, A70, H⟩ := H
            replace H : (if t212 = true then (impl_allWithin.l0 k1 a1 a2 l0 (l0.length : Int) (wrap64 (x11_1 + 1))) else (some false)) = some r := H
            have A7 := Aside0.mk A70
            clear A70
            by_cases c8 : t212 = true
            · subst c8
              replace H : (impl_allWithin.l0 k1 a1 a2 l0 (l0.length : Int) (wrap64 (x11_1 + 1))) = some r := by rw [if_pos rfl] at H; exact H
              have H' := Aside0.mk H
              clear H
              have p211 : 0 ≤ (x11_1 : Int) := od_
              have q211 : x11_1 < (l0.length : Int) := od_
              obtain ⟨ad211, e211, hx211_0⟩ := Kd.at_int HR0.out x11_1 p211 q211
              cases e211
              replace p211 := eq_true p211
              replace q211 := eq_true q211
              go_wp2_with (first | ((with_reducible refine gate_callee (f := 101) rfl ?_); refine goesL_ (some 18) rfl rfl Try.func101 (by kernel_rfl) rfl #[.int .i64 (rd l0 x11_1), .int .i64 a1, .int .i64 a2] rfl ag_ ?_; (with_reducible refine (impl_within.calls (rd l0 x11_1) a1 a2 true _ A7.out).mono ?_); rintro e w' ⟨rfl, ⟨nd, rfl⟩⟩; refine ⟨_, rfl, ?_⟩))
              go_roundg k1
              case measure => have := HK1.out; omega
              case rel => exact ⟨(wrap64 (x11_1 + 1)), (by first | rfl | (simp; done) | (simp [*]; done)), H', ⟨by have := HK1.out; omega⟩, by repeat (first | exact Drawn0.refl _ | apply Drawn0.step)⟩
            · replace c8 := Bool.eq_false_iff.mpr c8
              subst c8
              replace H : (some false) = some r := by rw [if_neg (show ¬ (false = true) by decide)] at H; exact H
              obtain rfl := Option.some.inj H
              have p211 : 0 ≤ (x11_1 : Int) := od_
              have q211 : x11_1 < (l0.length : Int) := od_
              obtain ⟨ad211, e211, hx211_0⟩ := Kd.at_int HR0.out x11_1 p211 q211
              cases e211
              replace p211 := eq_true p211
              replace q211 := eq_true q211
              go_wp2_with (first | ((with_reducible refine gate_callee (f := 101) rfl ?_); refine goesL_ (some 18) rfl rfl Try.func101 (by kernel_rfl) rfl #[.int .i64 (rd l0 x11_1), .int .i64 a1, .int .i64 a2] rfl ag_ ?_; (with_reducible refine (impl_within.calls (rd l0 x11_1) a1 a2 false _ A7.out).mono ?_); rintro e w' ⟨rfl, ⟨nd, rfl⟩⟩; refine ⟨_, rfl, ?_⟩))
              go_ret
              exact ⟨by first | rfl | (simp; done) | (simp [*]; done), by repeat (first | exact Drawn0.refl _ | apply Drawn0.step)⟩
          · rw [if_neg c6] at H
            exact absurd H (by simp)
        · rw [if_neg c5] at H
          exact absurd H (by simp)
      · rw [if_neg c4] at H
        have c4b0 : decide (x11_1 < (l0.length : Int)) = false := decide_eq_false c4
        clear c4
        obtain rfl := Option.some.inj H
        go_wp2
        go_ret
        exact ⟨by first | rfl | (simp; done) | (simp [*]; done), by repeat (first | exact Drawn0.refl _ | apply Drawn0.step)⟩
def impl_isLead.f (a0 : Int) : Option (Bool) := (impl_within.f a0 0 100000).bind fun t213 => (some t213)
set_option maxHeartbeats 8000000 in
set_option maxRecDepth 100000 in
theorem impl_isLead.calls (a0 : Int) (r : Bool) (w : World) (h : impl_isLead.f a0 = some r) :
    Calls Try.prog 111 #[.int .i64 a0] w fun e w' => e = .returned (.bool r) ∧ Drawn0 w w' := by
  have H : ((impl_within.f a0 0 100000).bind fun t213 => (some t213)) = some r := h
  clear h
  replace H := Option.bind_eq_some_iff.mp H
  obtain ⟨t213, A20, H⟩ := H
  replace H : (some t213) = some r := H
  have A2 := Aside0.mk A20
  clear A20
  obtain rfl := Option.some.inj H
  go_enter Try.func111, Try.ntmps111
  go_wp2_with (first | ((with_reducible refine gate_callee (f := 101) rfl ?_); refine goesL_ (some 4) rfl rfl Try.func101 (by kernel_rfl) rfl #[.int .i64 a0, .int .i64 0, .int .i64 100000] rfl ag_ ?_; (with_reducible refine (impl_within.calls a0 0 100000 t213 _ A2.out).mono ?_); rintro e w' ⟨rfl, ⟨nd, rfl⟩⟩; refine ⟨_, rfl, ?_⟩))
  go_ret
  exact ⟨by first | rfl | (simp; done) | (simp [*]; done), by repeat (first | exact Drawn0.refl _ | apply Drawn0.step)⟩
def impl_IsCircuit.f (k : Nat) (a0_0 : Int) (l0_1 : List Int) : Option (Bool) := (impl_isLead.f a0_0).bind fun t215 => (if t215 = true then (if (l0_1.length : Int) ≥ 1 then (if (l0_1.length : Int) ≤ 10 then ((impl_allWithin.f k l0_1 1 100000).bind fun t216 => (some t216)) else (some false)) else (some false)) else (some false))
set_option maxHeartbeats 8000000 in
set_option maxRecDepth 100000 in
theorem impl_IsCircuit.calls (k : Nat) (a0_0 : Int) (A0_1 : Option Addr) (c0_1 : Nat) (l0_1 : List Int) (r : Bool) (w : World) (hr0_1 : Kd.C (Kd.int .i64) w A0_1 l0_1.length l0_1) (hc0_1 : l0_1.length ≤ c0_1) (h : impl_IsCircuit.f k a0_0 l0_1 = some r) :
  Calls Try.prog 25 #[.agg #[.int .i64 a0_0, .slice A0_1 l0_1.length c0_1]] w fun e w' => e = .returned (.bool r) ∧ Below w.heap.size w w' := by
 have hu26 := Try.underlying26
 have HR0_1 := Aside0.mk hr0_1
 have HC0_1 := Aside0.mk hc0_1
 clear hr0_1 hc0_1
 have HB := Aside0.mk (Below.refl w.heap.size w)
 have H : ((impl_isLead.f a0_0).bind fun t215 => (if t215 = true then (if (l0_1.length : Int) ≥ 1 then (if (l0_1.length : Int) ≤ 10 then ((impl_allWithin.f k l0_1 1 100000).bind fun t216 => (some t216)) else (some false)) else (some false)) else (some false))) = some r := h
 clear h
 replace H := Option.bind_eq_some_iff.mp H
 obtain ⟨t215, A20, H⟩ := H
 replace H : (if t215 = true then (if (l0_1.length : Int) ≥ 1 then (if (l0_1.length : Int) ≤ 10 then ((impl_allWithin.f k l0_1 1 100000).bind fun t216 => (some t216)) else (some false)) else (some false)) else (some false)) = some r := H
 have A2 := Aside0.mk A20
 clear A20
 by_cases c3 : t215 = true
 ·subst c3
  replace H : (if (l0_1.length : Int) ≥ 1 then (if (l0_1.length : Int) ≤ 10 then ((impl_allWithin.f k l0_1 1 100000).bind fun t216 => (some t216)) else (some false)) else (some false)) = some r := by rw [if_pos rfl] at H; exact H
  by_cases c4 : (l0_1.length : Int) ≥ 1
  ·rw [if_pos c4] at H
   have c4b0 : decide (1 ≤ (l0_1.length : Int)) = true := decide_eq_true c4
   have c4b1 : decide (1 ≤ l0_1.length) = true := decide_eq_true (by omega)
   clear c4
   by_cases c5 : (l0_1.length : Int) ≤ 10
   ·rw [if_pos c5] at H
    have c5b0 : decide ((l0_1.length : Int) ≤ 10) = true := decide_eq_true c5
    have c5b1 : decide (l0_1.length ≤ 10) = true := decide_eq_true (by omega)
    clear c5
    replace H := Option.bind_eq_some_iff.mp H
    obtain ⟨t216, A60, H⟩ := H
    replace H : (some t216) = some r := H
    have A6 := Aside0.mk A60
    clear A60
    obtain rfl := Option.some.inj H
    go_enter Try.func25, Try.ntmps25
    go_wp2_with (first | ((with_reducible refine gate_dst (N := 1) rfl ?_); (try (refine gate_guard (by rfl) ?_; dsimp only)); refine box_event ?hg (N := 1) ?hd (cs := #[.int .i64 a0_0, .slice A0_1 l0_1.length c0_1]) (t := 26) ?hr ?_; (case hd => rfl); (case hg => rfl); (case hr => first | (go_simp; done) | (go_simp; rfl)); intro gb214 hg w7 hbox hb; have BK214 := Aside0.mk (hbox); have GW214 := Aside0.mk ((by rw [hg]; exact (below_size (bl_ HB.out)) : w.heap.size ≤ gb214)); have GE214 := Aside0.mk ((by rw [hg]; exact (below_size (bl_ HB.out)) : w.heap.size ≤ gb214)); replace HB := Aside0.mk (below_step (bl_ HB.out) hb); clear hb hbox hg; have hcz8_0 : w7.cell? ⟨gb214, 0, none⟩ = some (.int .i64 a0_0) := (blk_cell BK214.out 0).trans rfl; have hcz8_1 : w7.cell? ⟨gb214, 1, none⟩ = some (.slice A0_1 l0_1.length c0_1) := (blk_cell BK214.out 1).trans rfl; have hfz8_0 := blk_frozen BK214.out 0; have hfz8_1 := blk_frozen BK214.out 1) | ((with_reducible refine gate_callee (f := 111) rfl ?_); refine goesL_ (some 5) rfl rfl Try.func111 (by kernel_rfl) rfl #[.int .i64 a0_0] rfl ag_ ?_; (with_reducible refine (impl_isLead.calls a0_0 true _ A2.out).mono ?_); rintro e w' ⟨rfl, ⟨nd, rfl⟩⟩; refine ⟨_, rfl, ?_⟩) | (go_at_call 110; (with_reducible refine (impl_allWithin.calls k _ _ l0_1 1 100000 t216 _ ?side1 ?side2 A6.out).mono ?_); (case side1 => exact r16_ HR0_1.out HB.out GE214.out); (case side2 => exact HC0_1.out); rintro e w' ⟨rfl, ⟨nd, rfl⟩⟩))
    go_ret
    exact ⟨by first | rfl | (simp [errW_none, errW_some] <;> rfl) | (simp [*, errW_none, errW_some] <;> rfl), r1_ HB.out GE214.out⟩
   ·rw [if_neg c5] at H
    have c5b0 : decide ((l0_1.length : Int) ≤ 10) = false := decide_eq_false c5
    have c5b1 : decide (l0_1.length ≤ 10) = false := decide_eq_false (by omega)
    clear c5
    obtain rfl := Option.some.inj H
    go_enter Try.func25, Try.ntmps25
    go_wp2_with (first | ((with_reducible refine gate_dst (N := 1) rfl ?_); (try (refine gate_guard (by rfl) ?_; dsimp only)); refine box_event ?hg (N := 1) ?hd (cs := #[.int .i64 a0_0, .slice A0_1 l0_1.length c0_1]) (t := 26) ?hr ?_; (case hd => rfl); (case hg => rfl); (case hr => first | (go_simp; done) | (go_simp; rfl)); intro gb214 hg w9 hbox hb; have BK214 := Aside0.mk (hbox); have GW214 := Aside0.mk ((by rw [hg]; exact (below_size (bl_ HB.out)) : w.heap.size ≤ gb214)); have GE214 := Aside0.mk ((by rw [hg]; exact (below_size (bl_ HB.out)) : w.heap.size ≤ gb214)); replace HB := Aside0.mk (below_step (bl_ HB.out) hb); clear hb hbox hg; have hcz10_0 : w9.cell? ⟨gb214, 0, none⟩ = some (.int .i64 a0_0) := (blk_cell BK214.out 0).trans rfl; have hcz10_1 : w9.cell? ⟨gb214, 1, none⟩ = some (.slice A0_1 l0_1.length c0_1) := (blk_cell BK214.out 1).trans rfl; have hfz10_0 := blk_frozen BK214.out 0; have hfz10_1 := blk_frozen BK214.out 1) | ((with_reducible refine gate_callee (f := 111) rfl ?_); refine goesL_ (some 5) rfl rfl Try.func111 (by kernel_rfl) rfl #[.int .i64 a0_0] rfl ag_ ?_; (with_reducible refine (impl_isLead.calls a0_0 true _ A2.out).mono ?_); rintro e w' ⟨rfl, ⟨nd, rfl⟩⟩; refine ⟨_, rfl, ?_⟩))
    go_ret
    exact ⟨by first | rfl | (simp [errW_none, errW_some] <;> rfl) | (simp [*, errW_none, errW_some] <;> rfl), r1_ HB.out GE214.out⟩
  ·rw [if_neg c4] at H
   have c4b0 : decide (1 ≤ (l0_1.length : Int)) = false := decide_eq_false c4
   have c4b1 : decide (1 ≤ l0_1.length) = false := decide_eq_false (by omega)
   clear c4
   obtain rfl := Option.some.inj H
   go_enter Try.func25, Try.ntmps25
   go_wp2_with (first | ((with_reducible refine gate_dst (N := 1) rfl ?_); (try (refine gate_guard (by rfl) ?_; dsimp only)); refine box_event ?hg (N := 1) ?hd (cs := #[.int .i64 a0_0, .slice A0_1 l0_1.length c0_1]) (t := 26) ?hr ?_; (case hd => rfl); (case hg => rfl); (case hr => first | (go_simp; done) | (go_simp; rfl)); intro gb214 hg w11 hbox hb; have BK214 := Aside0.mk (hbox); have GW214 := Aside0.mk ((by rw [hg]; exact (below_size (bl_ HB.out)) : w.heap.size ≤ gb214)); have GE214 := Aside0.mk ((by rw [hg]; exact (below_size (bl_ HB.out)) : w.heap.size ≤ gb214)); replace HB := Aside0.mk (below_step (bl_ HB.out) hb); clear hb hbox hg; have hcz12_0 : w11.cell? ⟨gb214, 0, none⟩ = some (.int .i64 a0_0) := (blk_cell BK214.out 0).trans rfl; have hcz12_1 : w11.cell? ⟨gb214, 1, none⟩ = some (.slice A0_1 l0_1.length c0_1) := (blk_cell BK214.out 1).trans rfl; have hfz12_0 := blk_frozen BK214.out 0; have hfz12_1 := blk_frozen BK214.out 1) | ((with_reducible refine gate_callee (f := 111) rfl ?_); refine goesL_ (some 5) rfl rfl Try.func111 (by kernel_rfl) rfl #[.int .i64 a0_0] rfl ag_ ?_; (with_reducible refine (impl_isLead.calls a0_0 true _ A2.out).mono ?_); rintro e w' ⟨rfl, ⟨nd, rfl⟩⟩; refine ⟨_, rfl, ?_⟩))
   go_ret
   exact ⟨by first | rfl | (simp [errW_none, errW_some] <;> rfl) | (simp [*, errW_none, errW_some] <;> rfl), r1_ HB.out GE214.out⟩
 ·replace c3 := Bool.eq_false_iff.mpr c3
  subst c3
  replace H : (some false) = some r := by rw [if_neg (show ¬ (false = true) by decide)] at H; exact H
  obtain rfl := Option.some.inj H
  go_enter Try.func25, Try.ntmps25
  go_wp2_with (first | ((with_reducible refine gate_dst (N := 1) rfl ?_); (try (refine gate_guard (by rfl) ?_; dsimp only)); refine box_event ?hg (N := 1) ?hd (cs := #[.int .i64 a0_0, .slice A0_1 l0_1.length c0_1]) (t := 26) ?hr ?_; (case hd => rfl); (case hg => rfl); (case hr => first | (go_simp; done) | (go_simp; rfl)); intro gb214 hg w13 hbox hb; have BK214 := Aside0.mk (hbox); have GW214 := Aside0.mk ((by rw [hg]; exact (below_size (bl_ HB.out)) : w.heap.size ≤ gb214)); have GE214 := Aside0.mk ((by rw [hg]; exact (below_size (bl_ HB.out)) : w.heap.size ≤ gb214)); replace HB := Aside0.mk (below_step (bl_ HB.out) hb); clear hb hbox hg; have hcz14_0 : w13.cell? ⟨gb214, 0, none⟩ = some (.int .i64 a0_0) := (blk_cell BK214.out 0).trans rfl; have hcz14_1 : w13.cell? ⟨gb214, 1, none⟩ = some (.slice A0_1 l0_1.length c0_1) := (blk_cell BK214.out 1).trans rfl; have hfz14_0 := blk_frozen BK214.out 0; have hfz14_1 := blk_frozen BK214.out 1) | ((with_reducible refine gate_callee (f := 111) rfl ?_); refine goesL_ (some 5) rfl rfl Try.func111 (by kernel_rfl) rfl #[.int .i64 a0_0] rfl ag_ ?_; (with_reducible refine (impl_isLead.calls a0_0 false _ A2.out).mono ?_); rintro e w' ⟨rfl, ⟨nd, rfl⟩⟩; refine ⟨_, rfl, ?_⟩))
  go_ret
  exact ⟨by first | rfl | (simp [errW_none, errW_some] <;> rfl) | (simp [*, errW_none, errW_some] <;> rfl), r1_ HB.out GE214.out⟩
def impl_isReading.f (a0 : Int) : Option (Bool) := (impl_within.f a0 0 1000000000).bind fun t217 => (some t217)
set_option maxHeartbeats 8000000 in
set_option maxRecDepth 100000 in
theorem impl_isReading.calls (a0 : Int) (r : Bool) (w : World) (h : impl_isReading.f a0 = some r) :
    Calls Try.prog 100 #[.int .i64 a0] w fun e w' => e = .returned (.bool r) ∧ Drawn0 w w' := by
  have H : ((impl_within.f a0 0 1000000000).bind fun t217 => (some t217)) = some r := h
  clear h
  replace H := Option.bind_eq_some_iff.mp H
  obtain ⟨t217, A20, H⟩ := H
  replace H : (some t217) = some r := H
  have A2 := Aside0.mk A20
  clear A20
  obtain rfl := Option.some.inj H
  go_enter Try.func100, Try.ntmps100
  go_wp2_with (first | ((with_reducible refine gate_callee (f := 101) rfl ?_); refine goesL_ (some 4) rfl rfl Try.func101 (by kernel_rfl) rfl #[.int .i64 a0, .int .i64 0, .int .i64 1000000000] rfl ag_ ?_; (with_reducible refine (impl_within.calls a0 0 1000000000 t217 _ A2.out).mono ?_); rintro e w' ⟨rfl, ⟨nd, rfl⟩⟩; refine ⟨_, rfl, ?_⟩))
  go_ret
  exact ⟨by first | rfl | (simp; done) | (simp [*]; done), by repeat (first | exact Drawn0.refl _ | apply Drawn0.step)⟩
def impl_total.l0 : Nat → Int → List Int → Int → Int → Option (Int)
  | 0, _, _, _, _ => none
  | k + 1, x3, x6, x7, x8 => if x8 < x7 then (if 0 ≤ x8 then (if x8 < (x6.length : Int) then (impl_total.l0 k (wrap64 (x3 + (rd x6 x8))) x6 x7 (wrap64 (x8 + 1))) else (none)) else (none)) else (some x3)
def impl_total.f (k : Nat) (l0 : List Int) : Option (Int) := impl_total.l0 k 0 l0 (l0.length : Int) 0
set_option maxHeartbeats 8000000 in
set_option maxRecDepth 100000 in
theorem impl_total.calls (k : Nat) (A0 : Option Addr) (c0 : Nat) (l0 : List Int) (r : Int) (w : World) (hr0 : Kd.C (Kd.int .i64) w A0 l0.length l0) (hc0 : l0.length ≤ c0) (h : impl_total.f k l0 = some r) :
    Calls Try.prog 178 #[.slice A0 l0.length c0] w fun e w' => e = .returned (.int .i64 r) ∧ Drawn0 w w' := by
  have HR0 := Aside0.mk hr0
  have HC0 := Aside0.mk hc0
  clear hr0 hc0
  have H : (impl_total.l0 k 0 l0 (l0.length : Int) 0) = some r := h
  clear h
  have H' := Aside0.mk H
  clear H
  go_enter Try.func178, Try.ntmps178
  go_wp2
  go_loopg [3, 8] k (fun kq v3 v8 w' => ∃ (x3_1 : Int) (x8_1 : Int), v3 = .int .i64 x3_1 ∧ v8 = .int .i64 x8_1 ∧ Aside0 (impl_total.l0 kq x3_1 l0 (l0.length : Int) x8_1 = some r) ∧ Aside0 (kq ≤ k) ∧ Drawn0 w w')
  case atStart => exact ⟨(0), (0), (by first | rfl | (simp; done) | (simp [*]; done)), (by first | rfl | (simp; done) | (simp [*]; done)), H', ⟨Nat.le_refl _⟩, by repeat (first | exact Drawn0.refl _ | apply Drawn0.step)⟩
  case round =>
    clear H'
    try clear c1
    obtain ⟨x3_1, x8_1, rfl, rfl, HA, HK1, ⟨m1, rfl⟩⟩ := hrel
    cases gk with
    | zero => exact absurd HA.out (by simp [impl_total.l0])
    | succ k1 =>
      have H := HA.out
      clear HA
      simp only [impl_total.l0] at H
      by_cases c2 : x8_1 < (l0.length : Int)
      · rw [if_pos c2] at H
        have c2b0 : decide (x8_1 < (l0.length : Int)) = true := decide_eq_true c2
        clear c2
        by_cases c3 : 0 ≤ x8_1
        · rw [if_pos c3] at H
          have c3b0 : decide (0 ≤ x8_1) = true := decide_eq_true c3
          clear c3
          by_cases c4 : x8_1 < (l0.length : Int)
          · rw [if_pos c4] at H
            have c4b0 : decide (x8_1 < (l0.length : Int)) = true := decide_eq_true c4
            clear c4
            have H' := Aside0.mk H
            clear H
            have p218 : 0 ≤ (x8_1 : Int) := od_
            have q218 : x8_1 < (l0.length : Int) := od_
            obtain ⟨ad218, e218, hx218_0⟩ := Kd.at_int HR0.out x8_1 p218 q218
            cases e218
            replace p218 := eq_true p218
            replace q218 := eq_true q218
            go_wp2
            go_roundg k1
            case measure => have := HK1.out; omega
            case rel => exact ⟨(wrap64 (x3_1 + (rd l0 x8_1))), (wrap64 (x8_1 + 1)), (by first | rfl | (simp; done) | (simp [*]; done)), (by first | rfl | (simp; done) | (simp [*]; done)), H', ⟨by have := HK1.out; omega⟩, by repeat (first | exact Drawn0.refl _ | apply Drawn0.step)⟩
          · rw [if_neg c4] at H
            exact absurd H (by simp)
        · rw [if_neg c3] at H
          exact absurd H (by simp)
      · rw [if_neg c2] at H
        have c2b0 : decide (x8_1 < (l0.length : Int)) = false := decide_eq_false c2
        clear c2
        obtain rfl := Option.some.inj H
        go_wp2
        go_ret
        exact ⟨by first | rfl | (simp; done) | (simp [*]; done), by repeat (first | exact Drawn0.refl _ | apply Drawn0.step)⟩
def impl_expectedOf.f (k : Nat) (a0_0 : Int) (l0_1 : List Int) : Option (Int) := (impl_total.f k l0_1).bind fun t220 => (some (wrap64 (a0_0 + t220)))
set_option maxHeartbeats 8000000 in
set_option maxRecDepth 100000 in
theorem impl_expectedOf.calls (k : Nat) (a0_0 : Int) (A0_1 : Option Addr) (c0_1 : Nat) (l0_1 : List Int) (r : Int) (w : World) (hr0_1 : Kd.C (Kd.int .i64) w A0_1 l0_1.length l0_1) (hc0_1 : l0_1.length ≤ c0_1) (h : impl_expectedOf.f k a0_0 l0_1 = some r) :
    Calls Try.prog 105 #[.agg #[.int .i64 a0_0, .slice A0_1 l0_1.length c0_1]] w fun e w' => e = .returned (.int .i64 r) ∧ Below w.heap.size w w' := by
  have hu26 := Try.underlying26
  have HR0_1 := Aside0.mk hr0_1
  have HC0_1 := Aside0.mk hc0_1
  clear hr0_1 hc0_1
  have HB := Aside0.mk (Below.refl w.heap.size w)
  have H : ((impl_total.f k l0_1).bind fun t220 => (some (wrap64 (a0_0 + t220)))) = some r := h
  clear h
  replace H := Option.bind_eq_some_iff.mp H
  obtain ⟨t220, A20, H⟩ := H
  replace H : (some (wrap64 (a0_0 + t220))) = some r := H
  have A2 := Aside0.mk A20
  clear A20
  obtain rfl := Option.some.inj H
  go_enter Try.func105, Try.ntmps105
  go_wp2_with (first | ((with_reducible refine gate_dst (N := 1) rfl ?_); refine box_event ?hg (N := 1) ?hd (cs := #[.int .i64 a0_0, .slice A0_1 l0_1.length c0_1]) (t := 26) ?hr ?_; (case hd => rfl); (case hg => rfl); (case hr => first | (go_simp; done) | (go_simp; rfl)); intro gb219 hg w3 hbox hb; have BK219 := Aside0.mk (hbox); have GW219 := Aside0.mk ((by rw [hg]; exact (below_size (bl_ HB.out)) : w.heap.size ≤ gb219)); have GE219 := Aside0.mk ((by rw [hg]; exact (below_size (bl_ HB.out)) : w.heap.size ≤ gb219)); replace HB := Aside0.mk (below_step (bl_ HB.out) hb); clear hb hbox hg; have hcz4_0 : w3.cell? ⟨gb219, 0, none⟩ = some (.int .i64 a0_0) := (blk_cell BK219.out 0).trans rfl; have hcz4_1 : w3.cell? ⟨gb219, 1, none⟩ = some (.slice A0_1 l0_1.length c0_1) := (blk_cell BK219.out 1).trans rfl; have hfz4_0 := blk_frozen BK219.out 0; have hfz4_1 := blk_frozen BK219.out 1) | (go_at_call 178; (with_reducible refine (impl_total.calls k _ _ l0_1 t220 _ ?side1 ?side2 A2.out).mono ?_); (case side1 => exact r8_ HR0_1.out HB.out); (case side2 => exact HC0_1.out); rintro e w' ⟨rfl, ⟨nd, rfl⟩⟩; (try first | exact ⟨rfl, _, World.drewN_drewN _ _ _⟩ | exact ⟨rfl, _, Eq.trans (World.drewN_drewN _ _ _) (congrArg (World.drewN _) (Nat.add_assoc _ _ _))⟩)))
  repeat (go_quiet (first | ((with_reducible refine gate_dst (N := 1) rfl ?_); refine box_event ?hg (N := 1) ?hd (cs := #[.int .i64 a0_0, .slice A0_1 l0_1.length c0_1]) (t := 26) ?hr ?_; (case hd => rfl); (case hg => rfl); (case hr => first | (go_simp; done) | (go_simp; rfl)); intro gb219 hg w3 hbox hb; have BK219 := Aside0.mk (hbox); have GW219 := Aside0.mk ((by rw [hg]; exact (below_size (bl_ HB.out)) : w.heap.size ≤ gb219)); have GE219 := Aside0.mk ((by rw [hg]; exact (below_size (bl_ HB.out)) : w.heap.size ≤ gb219)); replace HB := Aside0.mk (below_step (bl_ HB.out) hb); clear hb hbox hg; have hcz4_0 : w3.cell? ⟨gb219, 0, none⟩ = some (.int .i64 a0_0) := (blk_cell BK219.out 0).trans rfl; have hcz4_1 : w3.cell? ⟨gb219, 1, none⟩ = some (.slice A0_1 l0_1.length c0_1) := (blk_cell BK219.out 1).trans rfl; have hfz4_0 := blk_frozen BK219.out 0; have hfz4_1 := blk_frozen BK219.out 1) | (go_at_call 178; (with_reducible refine (impl_total.calls k _ _ l0_1 t220 _ ?side1 ?side2 A2.out).mono ?_); (case side1 => exact r8_ HR0_1.out HB.out); (case side2 => exact HC0_1.out); rintro e w' ⟨rfl, ⟨nd, rfl⟩⟩; (try first | exact ⟨rfl, _, World.drewN_drewN _ _ _⟩ | exact ⟨rfl, _, Eq.trans (World.drewN_drewN _ _ _) (congrArg (World.drewN _) (Nat.add_assoc _ _ _))⟩))); try go_wp2_with (first | ((with_reducible refine gate_dst (N := 1) rfl ?_); refine box_event ?hg (N := 1) ?hd (cs := #[.int .i64 a0_0, .slice A0_1 l0_1.length c0_1]) (t := 26) ?hr ?_; (case hd => rfl); (case hg => rfl); (case hr => first | (go_simp; done) | (go_simp; rfl)); intro gb219 hg w3 hbox hb; have BK219 := Aside0.mk (hbox); have GW219 := Aside0.mk ((by rw [hg]; exact (below_size (bl_ HB.out)) : w.heap.size ≤ gb219)); have GE219 := Aside0.mk ((by rw [hg]; exact (below_size (bl_ HB.out)) : w.heap.size ≤ gb219)); replace HB := Aside0.mk (below_step (bl_ HB.out) hb); clear hb hbox hg; have hcz4_0 : w3.cell? ⟨gb219, 0, none⟩ = some (.int .i64 a0_0) := (blk_cell BK219.out 0).trans rfl; have hcz4_1 : w3.cell? ⟨gb219, 1, none⟩ = some (.slice A0_1 l0_1.length c0_1) := (blk_cell BK219.out 1).trans rfl; have hfz4_0 := blk_frozen BK219.out 0; have hfz4_1 := blk_frozen BK219.out 1) | (go_at_call 178; (with_reducible refine (impl_total.calls k _ _ l0_1 t220 _ ?side1 ?side2 A2.out).mono ?_); (case side1 => exact r8_ HR0_1.out HB.out); (case side2 => exact HC0_1.out); rintro e w' ⟨rfl, ⟨nd, rfl⟩⟩; (try first | exact ⟨rfl, _, World.drewN_drewN _ _ _⟩ | exact ⟨rfl, _, Eq.trans (World.drewN_drewN _ _ _) (congrArg (World.drewN _) (Nat.add_assoc _ _ _))⟩))))
  go_ret
  exact ⟨by first | rfl | (simp [errW_none, errW_some] <;> rfl) | (simp [*, errW_none, errW_some] <;> rfl), r1_ HB.out GE219.out⟩
def impl_abs.f (a0 : Int) : Option (Int) := if a0 < 0 then (some (wrap64 (-a0))) else (some a0)
set_option maxHeartbeats 8000000 in
set_option maxRecDepth 100000 in
theorem impl_abs.calls (a0 : Int) (r : Int) (w : World) (h : impl_abs.f a0 = some r) :
    Calls Try.prog 176 #[.int .i64 a0] w fun e w' => e = .returned (.int .i64 r) ∧ Drawn0 w w' := by
  have H : (if a0 < 0 then (some (wrap64 (-a0))) else (some a0)) = some r := h
  clear h
  by_cases c2 : a0 < 0
  · rw [if_pos c2] at H
    have c2b0 : decide (a0 < 0) = true := decide_eq_true c2
    clear c2
    obtain rfl := Option.some.inj H
    go_enter Try.func176, Try.ntmps176
    go_wp2
    go_ret
    exact ⟨by first | rfl | (simp; done) | (simp [*]; done), by repeat (first | exact Drawn0.refl _ | apply Drawn0.step)⟩
  · rw [if_neg c2] at H
    have c2b0 : decide (a0 < 0) = false := decide_eq_false c2
    clear c2
    obtain rfl := Option.some.inj H
    go_enter Try.func176, Try.ntmps176
    go_wp2
    go_ret
    exact ⟨by first | rfl | (simp; done) | (simp [*]; done), by repeat (first | exact Drawn0.refl _ | apply Drawn0.step)⟩
def impl_stateOf.f (k : Nat) (a0_0 : Int) (l0_1 : List Int) (a1 : Int) (a2 : Int) : Option (Int) := (impl_expectedOf.f k a0_0 l0_1).bind fun t222 => ((impl_abs.f (wrap64 (a1 - t222))).bind fun t223 => (if (wrap64 (100 * t223)) ≤ (wrap64 (a2 * t222)) then (some 0) else (if a1 ≤ a0_0 then (some 2) else (if a1 ≥ (wrap64 (10 * t222)) then (some 1) else (some 3)))))
set_option maxHeartbeats 8000000 in
set_option maxRecDepth 100000 in
theorem impl_stateOf.calls (k : Nat) (a0_0 : Int) (A0_1 : Option Addr) (c0_1 : Nat) (l0_1 : List Int) (a1 : Int) (a2 : Int) (r : Int) (w : World) (hr0_1 : Kd.C (Kd.int .i64) w A0_1 l0_1.length l0_1) (hc0_1 : l0_1.length ≤ c0_1) (h : impl_stateOf.f k a0_0 l0_1 a1 a2 = some r) :
  Calls Try.prog 102 #[.agg #[.int .i64 a0_0, .slice A0_1 l0_1.length c0_1], .int .i64 a1, .int .i64 a2] w fun e w' => e = .returned (.int .i64 r) ∧ Below w.heap.size w w' := by
 have hu26 := Try.underlying26
 have HR0_1 := Aside0.mk hr0_1
 have HC0_1 := Aside0.mk hc0_1
 clear hr0_1 hc0_1
 have HB := Aside0.mk (Below.refl w.heap.size w)
 have H : ((impl_expectedOf.f k a0_0 l0_1).bind fun t222 => ((impl_abs.f (wrap64 (a1 - t222))).bind fun t223 => (if (wrap64 (100 * t223)) ≤ (wrap64 (a2 * t222)) then (some 0) else (if a1 ≤ a0_0 then (some 2) else (if a1 ≥ (wrap64 (10 * t222)) then (some 1) else (some 3)))))) = some r := h
 clear h
 replace H := Option.bind_eq_some_iff.mp H
 obtain ⟨t222, A40, H⟩ := H
 replace H : ((impl_abs.f (wrap64 (a1 - t222))).bind fun t223 => (if (wrap64 (100 * t223)) ≤ (wrap64 (a2 * t222)) then (some 0) else (if a1 ≤ a0_0 then (some 2) else (if a1 ≥ (wrap64 (10 * t222)) then (some 1) else (some 3))))) = some r := H
 have A4 := Aside0.mk A40
 clear A40
 replace H := Option.bind_eq_some_iff.mp H
 obtain ⟨t223, A50, H⟩ := H
 replace H : (if (wrap64 (100 * t223)) ≤ (wrap64 (a2 * t222)) then (some 0) else (if a1 ≤ a0_0 then (some 2) else (if a1 ≥ (wrap64 (10 * t222)) then (some 1) else (some 3)))) = some r := H
 have A5 := Aside0.mk A50
 clear A50
 by_cases c6 : (wrap64 (100 * t223)) ≤ (wrap64 (a2 * t222))
 ·rw [if_pos c6] at H
  have c6b0 : decide ((wrap64 (100 * t223)) ≤ (wrap64 (a2 * t222))) = true := decide_eq_true c6
  clear c6
  obtain rfl := Option.some.inj H
  go_enter Try.func102, Try.ntmps102
  go_wp2_with (first | ((with_reducible refine gate_dst (N := 3) rfl ?_); refine box_event ?hg (N := 3) ?hd (cs := #[.int .i64 a0_0, .slice A0_1 l0_1.length c0_1]) (t := 26) ?hr ?_; (case hd => rfl); (case hg => rfl); (case hr => first | (go_simp; done) | (go_simp; rfl)); intro gb221 hg w7 hbox hb; have BK221 := Aside0.mk (hbox); have GW221 := Aside0.mk ((by rw [hg]; exact (below_size (bl_ HB.out)) : w.heap.size ≤ gb221)); have GE221 := Aside0.mk ((by rw [hg]; exact (below_size (bl_ HB.out)) : w.heap.size ≤ gb221)); replace HB := Aside0.mk (below_step (bl_ HB.out) hb); clear hb hbox hg; have hcz8_0 : w7.cell? ⟨gb221, 0, none⟩ = some (.int .i64 a0_0) := (blk_cell BK221.out 0).trans rfl; have hcz8_1 : w7.cell? ⟨gb221, 1, none⟩ = some (.slice A0_1 l0_1.length c0_1) := (blk_cell BK221.out 1).trans rfl; have hfz8_0 := blk_frozen BK221.out 0; have hfz8_1 := blk_frozen BK221.out 1) | ((with_reducible refine gate_callee (f := 105) rfl ?_); refine goesL_ (some 9) rfl rfl Try.func105 (by kernel_rfl) rfl #[.agg #[.int .i64 a0_0, .slice A0_1 l0_1.length c0_1]] rfl ag_ ?_; (with_reducible refine (impl_expectedOf.calls k a0_0 _ _ l0_1 t222 _ ?side1 ?side2 A4.out).mono ?_); (case side1 => exact r8_ HR0_1.out HB.out); (case side2 => exact HC0_1.out); rintro e w9 ⟨rfl, hb⟩; refine ⟨_, rfl, ?_⟩; replace BK221 := Aside0.mk (blk_below (g := gb221) (o := .cells #[.int .i64 a0_0, .slice A0_1 l0_1.length c0_1] 26 (0, 0)) (r0_ BK221.out) hb); replace HB := Aside0.mk (below_step (r1_ HB.out GE221.out) hb); (try clear hb); (try clear hb2); (try clear hk); (try clear hi)) | ((with_reducible refine gate_callee (f := 176) rfl ?_); refine goesL_ (some 14) rfl rfl Try.func176 (by kernel_rfl) rfl #[.int .i64 (wrap64 (a1 - t222))] rfl ag_ ?_; (with_reducible refine (impl_abs.calls (wrap64 (a1 - t222)) t223 _ A5.out).mono ?_); rintro e w' ⟨rfl, ⟨nd, rfl⟩⟩; refine ⟨_, rfl, ?_⟩))
  go_ret
  exact ⟨by first | rfl | (simp [errW_none, errW_some] <;> rfl) | (simp [*, errW_none, errW_some] <;> rfl), r1_ HB.out GE221.out⟩
 ·rw [if_neg c6] at H
  have c6b0 : decide ((wrap64 (100 * t223)) ≤ (wrap64 (a2 * t222))) = false := decide_eq_false c6
  clear c6
  by_cases c10 : a1 ≤ a0_0
  ·rw [if_pos c10] at H
   have c10b0 : decide (a1 ≤ a0_0) = true := decide_eq_true c10
   clear c10
   obtain rfl := Option.some.inj H
   go_enter Try.func102, Try.ntmps102
   go_wp2_with (first | ((with_reducible refine gate_dst (N := 3) rfl ?_); refine box_event ?hg (N := 3) ?hd (cs := #[.int .i64 a0_0, .slice A0_1 l0_1.length c0_1]) (t := 26) ?hr ?_; (case hd => rfl); (case hg => rfl); (case hr => first | (go_simp; done) | (go_simp; rfl)); intro gb221 hg w11 hbox hb; have BK221 := Aside0.mk (hbox); have GW221 := Aside0.mk ((by rw [hg]; exact (below_size (bl_ HB.out)) : w.heap.size ≤ gb221)); have GE221 := Aside0.mk ((by rw [hg]; exact (below_size (bl_ HB.out)) : w.heap.size ≤ gb221)); replace HB := Aside0.mk (below_step (bl_ HB.out) hb); clear hb hbox hg; have hcz12_0 : w11.cell? ⟨gb221, 0, none⟩ = some (.int .i64 a0_0) := (blk_cell BK221.out 0).trans rfl; have hcz12_1 : w11.cell? ⟨gb221, 1, none⟩ = some (.slice A0_1 l0_1.length c0_1) := (blk_cell BK221.out 1).trans rfl; have hfz12_0 := blk_frozen BK221.out 0; have hfz12_1 := blk_frozen BK221.out 1) | ((with_reducible refine gate_callee (f := 105) rfl ?_); refine goesL_ (some 9) rfl rfl Try.func105 (by kernel_rfl) rfl #[.agg #[.int .i64 a0_0, .slice A0_1 l0_1.length c0_1]] rfl ag_ ?_; (with_reducible refine (impl_expectedOf.calls k a0_0 _ _ l0_1 t222 _ ?side1 ?side2 A4.out).mono ?_); (case side1 => exact r8_ HR0_1.out HB.out); (case side2 => exact HC0_1.out); rintro e w13 ⟨rfl, hb⟩; refine ⟨_, rfl, ?_⟩; replace BK221 := Aside0.mk (blk_below (g := gb221) (o := .cells #[.int .i64 a0_0, .slice A0_1 l0_1.length c0_1] 26 (0, 0)) (r0_ BK221.out) hb); replace HB := Aside0.mk (below_step (r1_ HB.out GE221.out) hb); (try clear hb); (try clear hb2); (try clear hk); (try clear hi)) | ((with_reducible refine gate_callee (f := 176) rfl ?_); refine goesL_ (some 14) rfl rfl Try.func176 (by kernel_rfl) rfl #[.int .i64 (wrap64 (a1 - t222))] rfl ag_ ?_; (with_reducible refine (impl_abs.calls (wrap64 (a1 - t222)) t223 _ A5.out).mono ?_); rintro e w' ⟨rfl, ⟨nd, rfl⟩⟩; refine ⟨_, rfl, ?_⟩; have hcz14_0 : w13.cell? ⟨gb221, 0, none⟩ = some (.int .i64 a0_0) := (blk_cell BK221.out 0).trans rfl; have hcz14_1 : w13.cell? ⟨gb221, 1, none⟩ = some (.slice A0_1 l0_1.length c0_1) := (blk_cell BK221.out 1).trans rfl; have hfz14_0 := blk_frozen BK221.out 0; have hfz14_1 := blk_frozen BK221.out 1))
   go_ret
   exact ⟨by first | rfl | (simp [errW_none, errW_some] <;> rfl) | (simp [*, errW_none, errW_some] <;> rfl), r1_ HB.out GE221.out⟩
  ·rw [if_neg c10] at H
   have c10b0 : decide (a1 ≤ a0_0) = false := decide_eq_false c10
   clear c10
   by_cases c15 : a1 ≥ (wrap64 (10 * t222))
   ·rw [if_pos c15] at H
    have c15b0 : decide ((wrap64 (10 * t222)) ≤ a1) = true := decide_eq_true c15
    clear c15
    obtain rfl := Option.some.inj H
    go_enter Try.func102, Try.ntmps102
    go_wp2_with (first | ((with_reducible refine gate_dst (N := 3) rfl ?_); refine box_event ?hg (N := 3) ?hd (cs := #[.int .i64 a0_0, .slice A0_1 l0_1.length c0_1]) (t := 26) ?hr ?_; (case hd => rfl); (case hg => rfl); (case hr => first | (go_simp; done) | (go_simp; rfl)); intro gb221 hg w16 hbox hb; have BK221 := Aside0.mk (hbox); have GW221 := Aside0.mk ((by rw [hg]; exact (below_size (bl_ HB.out)) : w.heap.size ≤ gb221)); have GE221 := Aside0.mk ((by rw [hg]; exact (below_size (bl_ HB.out)) : w.heap.size ≤ gb221)); replace HB := Aside0.mk (below_step (bl_ HB.out) hb); clear hb hbox hg; have hcz17_0 : w16.cell? ⟨gb221, 0, none⟩ = some (.int .i64 a0_0) := (blk_cell BK221.out 0).trans rfl; have hcz17_1 : w16.cell? ⟨gb221, 1, none⟩ = some (.slice A0_1 l0_1.length c0_1) := (blk_cell BK221.out 1).trans rfl; have hfz17_0 := blk_frozen BK221.out 0; have hfz17_1 := blk_frozen BK221.out 1) | ((with_reducible refine gate_callee (f := 105) rfl ?_); refine goesL_ (some 9) rfl rfl Try.func105 (by kernel_rfl) rfl #[.agg #[.int .i64 a0_0, .slice A0_1 l0_1.length c0_1]] rfl ag_ ?_; (with_reducible refine (impl_expectedOf.calls k a0_0 _ _ l0_1 t222 _ ?side1 ?side2 A4.out).mono ?_); (case side1 => exact r8_ HR0_1.out HB.out); (case side2 => exact HC0_1.out); rintro e w18 ⟨rfl, hb⟩; refine ⟨_, rfl, ?_⟩; replace BK221 := Aside0.mk (blk_below (g := gb221) (o := .cells #[.int .i64 a0_0, .slice A0_1 l0_1.length c0_1] 26 (0, 0)) (r0_ BK221.out) hb); replace HB := Aside0.mk (below_step (r1_ HB.out GE221.out) hb); (try clear hb); (try clear hb2); (try clear hk); (try clear hi)) | ((with_reducible refine gate_callee (f := 176) rfl ?_); refine goesL_ (some 14) rfl rfl Try.func176 (by kernel_rfl) rfl #[.int .i64 (wrap64 (a1 - t222))] rfl ag_ ?_; (with_reducible refine (impl_abs.calls (wrap64 (a1 - t222)) t223 _ A5.out).mono ?_); rintro e w' ⟨rfl, ⟨nd, rfl⟩⟩; refine ⟨_, rfl, ?_⟩; have hcz19_0 : w18.cell? ⟨gb221, 0, none⟩ = some (.int .i64 a0_0) := (blk_cell BK221.out 0).trans rfl; have hcz19_1 : w18.cell? ⟨gb221, 1, none⟩ = some (.slice A0_1 l0_1.length c0_1) := (blk_cell BK221.out 1).trans rfl; have hfz19_0 := blk_frozen BK221.out 0; have hfz19_1 := blk_frozen BK221.out 1))
    go_ret
    exact ⟨by first | rfl | (simp [errW_none, errW_some] <;> rfl) | (simp [*, errW_none, errW_some] <;> rfl), r1_ HB.out GE221.out⟩
   ·rw [if_neg c15] at H
    have c15b0 : decide ((wrap64 (10 * t222)) ≤ a1) = false := decide_eq_false c15
    clear c15
    obtain rfl := Option.some.inj H
    go_enter Try.func102, Try.ntmps102
    go_wp2_with (first | ((with_reducible refine gate_dst (N := 3) rfl ?_); refine box_event ?hg (N := 3) ?hd (cs := #[.int .i64 a0_0, .slice A0_1 l0_1.length c0_1]) (t := 26) ?hr ?_; (case hd => rfl); (case hg => rfl); (case hr => first | (go_simp; done) | (go_simp; rfl)); intro gb221 hg w20 hbox hb; have BK221 := Aside0.mk (hbox); have GW221 := Aside0.mk ((by rw [hg]; exact (below_size (bl_ HB.out)) : w.heap.size ≤ gb221)); have GE221 := Aside0.mk ((by rw [hg]; exact (below_size (bl_ HB.out)) : w.heap.size ≤ gb221)); replace HB := Aside0.mk (below_step (bl_ HB.out) hb); clear hb hbox hg; have hcz21_0 : w20.cell? ⟨gb221, 0, none⟩ = some (.int .i64 a0_0) := (blk_cell BK221.out 0).trans rfl; have hcz21_1 : w20.cell? ⟨gb221, 1, none⟩ = some (.slice A0_1 l0_1.length c0_1) := (blk_cell BK221.out 1).trans rfl; have hfz21_0 := blk_frozen BK221.out 0; have hfz21_1 := blk_frozen BK221.out 1) | ((with_reducible refine gate_callee (f := 105) rfl ?_); refine goesL_ (some 9) rfl rfl Try.func105 (by kernel_rfl) rfl #[.agg #[.int .i64 a0_0, .slice A0_1 l0_1.length c0_1]] rfl ag_ ?_; (with_reducible refine (impl_expectedOf.calls k a0_0 _ _ l0_1 t222 _ ?side1 ?side2 A4.out).mono ?_); (case side1 => exact r8_ HR0_1.out HB.out); (case side2 => exact HC0_1.out); rintro e w22 ⟨rfl, hb⟩; refine ⟨_, rfl, ?_⟩; replace BK221 := Aside0.mk (blk_below (g := gb221) (o := .cells #[.int .i64 a0_0, .slice A0_1 l0_1.length c0_1] 26 (0, 0)) (r0_ BK221.out) hb); replace HB := Aside0.mk (below_step (r1_ HB.out GE221.out) hb); (try clear hb); (try clear hb2); (try clear hk); (try clear hi)) | ((with_reducible refine gate_callee (f := 176) rfl ?_); refine goesL_ (some 14) rfl rfl Try.func176 (by kernel_rfl) rfl #[.int .i64 (wrap64 (a1 - t222))] rfl ag_ ?_; (with_reducible refine (impl_abs.calls (wrap64 (a1 - t222)) t223 _ A5.out).mono ?_); rintro e w' ⟨rfl, ⟨nd, rfl⟩⟩; refine ⟨_, rfl, ?_⟩; have hcz23_0 : w22.cell? ⟨gb221, 0, none⟩ = some (.int .i64 a0_0) := (blk_cell BK221.out 0).trans rfl; have hcz23_1 : w22.cell? ⟨gb221, 1, none⟩ = some (.slice A0_1 l0_1.length c0_1) := (blk_cell BK221.out 1).trans rfl; have hfz23_0 := blk_frozen BK221.out 0; have hfz23_1 := blk_frozen BK221.out 1))
    go_ret
    exact ⟨by first | rfl | (simp [errW_none, errW_some] <;> rfl) | (simp [*, errW_none, errW_some] <;> rfl), r1_ HB.out GE221.out⟩
end Go.Proofs.Ytmahecjbejffoaa.PFnCircuits
