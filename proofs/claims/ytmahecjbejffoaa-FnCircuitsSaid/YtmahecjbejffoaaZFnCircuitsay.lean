/- QFnCircuitsb of the law FnCircuits: taken over, declaration by declaration, as far as the law leans on it (the words and the printed functions are the kit's own print). No condition but what each says. -/
import Derived.Test.YtmahecjbejffoaaZFnCircuitsav
import Derived.Test.YtmahecjbejffoaaZFnCircuitsaw
import Derived.Test.YtmahecjbejffoaaZFnCircuitsax
namespace Go.Proofs.Ytmahecjbejffoaa.PFnCircuits
open Go.RowKit Go.Proofs.YtmahecjbejffoaaW.PrintWords Go.Proofs.YtmahecjbejffoaaW.PrintLast Go.Proofs.YtmahecjbejffoaaW.PrintMore
attribute [local go_sem] max2_int min2_int max_two min_two max_three min_three max_four min_four   -- for this text's walks alone
set_option linter.unusedVariables false
set_option linter.unusedSimpArgs false
open Bool renaming true → t_, false → f_
def spec_l14Draw.l0 : Nat → List Int → Int → Int → Int → List Int → Option (Int × List Int × Int × Int)
 | 0, _, _, _, _, _ => none
 | k + 1, x1000, x1001, x1002, x134000, x134001 => (spec_l01Next.f x1000 x1001 x1002 2).bind fun bt152 => (if (x134001.length : Int) < (wrap64 (10 + bt152.1)) then (if x134001.length < 17592186044416 then (spec_l14Draw.l0 k x1000 bt152.2.1 bt152.2.2 x134000 (x134001 ++ [1700])) else (none)) else (some (x134000, x134001, bt152.2.1, bt152.2.2)))
def spec_l14Draw.f (k : Nat) (s0_0 : List Int) (s0_1 : Int) (s0_2 : Int) : Option (Int × List Int × Int × Int) := (spec_l14Good.f k s0_0 s0_1 s0_2).bind fun bt127 => ((spec_l01Next.f s0_0 bt127.2.2.1 bt127.2.2.2 30).bind fun bt134 => (if bt134.1 = 0 then ((spec_l01Pick.f s0_0 bt134.2.1 bt134.2.2 (([(-1), 0, 100000, 100001] : List Int))).bind fun bt140 => (some (bt140.1, bt127.2.1, bt140.2.1, bt140.2.2))) else (if bt134.1 = 1 then ((spec_l01Pick.f s0_0 bt134.2.1 bt134.2.2 (([0, 1, 100000, 100001] : List Int))).bind fun bt146 => (if bt127.2.1.length < 17592186044416 then (some (bt127.1, (bt127.2.1 ++ [bt146.1]), bt146.2.1, bt146.2.2)) else (none))) else (if bt134.1 = 2 then (spec_l14Draw.l0 k s0_0 bt134.2.1 bt134.2.2 bt127.1 bt127.2.1) else (if bt134.1 = 3 then (some (bt127.1, (([] : List Int)), bt134.2.1, bt134.2.2)) else (some (bt127.1, bt127.2.1, bt134.2.1, bt134.2.2)))))))
def spec_l14Draw.T6 : Bool × List (List Nat × List Nat) := (true, [([], []), ([0], [0]), ([], []), ([], []), ([2, 3], [2, 3]), ([4], [4]), ([1, 5, 4], [1, 5]), ([0, 1, 2, 3, 4, 5, 6], []), ([7, 6, 6, 0, 1, 2, 3, 4, 5, 6], [6, 7])])
def spec_l14Draw.B6 : List Nat := [0, 1, 0, 0, 12, 28, 63, 127, 255]
theorem spec_l14Draw.tab6 : rtab .any (opsOf Try.f97 6) = spec_l14Draw.T6 := by kernel_rfl
theorem spec_l14Draw.bits6 : waitsOk spec_l14Draw.T6.2 spec_l14Draw.B6 = true := by kernel_rfl
set_option maxHeartbeats 8000000 in
set_option maxRecDepth 100000 in
theorem spec_l14Draw.calls (k : Nat) (g : Nat) (s0_0 : List Int) (s0_1 : Int) (s0_2 : Int) (r1 : Int) (r2 : List Int) (r3 : Int) (r4 : Int) (w0 w : World) (hI : IsS183 w0 w g s0_0 s0_1 s0_2) (hB : Below w0.heap.size w0 w) (h : spec_l14Draw.f k s0_0 s0_1 s0_2 = some (r1, r2, r3, r4)) :
  Calls Try.prog 97 #[.pointer (some ⟨g, 0, none⟩)] w fun e w' => ∃ v1_ : Value, e = .returned (.agg #[.int .i64 r1, v1_]) ∧ Kd.R (Kd.int .i64) 2 w' w.heap.size (fun _ => True) v1_ r2 ∧ IsS183 w0 w' g s0_0 r3 r4 ∧ Below w0.heap.size w0 w' ∧ KeepBut w w' g none := by
 have hu26 := Try.underlying26
 have HI0 := Aside0.mk hI
 have HK := Aside0.mk (KeepBut.refl w g none)
 have HL := Aside0.mk hB.size
 clear hI
 have HW0 := Aside0.mk hB.size
 have HB := Aside0.mk hB
 clear hB
 have H : ((spec_l14Good.f k s0_0 s0_1 s0_2).bind fun bt127 => ((spec_l01Next.f s0_0 bt127.2.2.1 bt127.2.2.2 30).bind fun bt134 => (if bt134.1 = 0 then ((spec_l01Pick.f s0_0 bt134.2.1 bt134.2.2 (([(-1), 0, 100000, 100001] : List Int))).bind fun bt140 => (some (bt140.1, bt127.2.1, bt140.2.1, bt140.2.2))) else (if bt134.1 = 1 then ((spec_l01Pick.f s0_0 bt134.2.1 bt134.2.2 (([0, 1, 100000, 100001] : List Int))).bind fun bt146 => (if bt127.2.1.length < 17592186044416 then (some (bt127.1, (bt127.2.1 ++ [bt146.1]), bt146.2.1, bt146.2.2)) else (none))) else (if bt134.1 = 2 then (spec_l14Draw.l0 k s0_0 bt134.2.1 bt134.2.2 bt127.1 bt127.2.1) else (if bt134.1 = 3 then (some (bt127.1, (([] : List Int)), bt134.2.1, bt134.2.2)) else (some (bt127.1, bt127.2.1, bt134.2.1, bt134.2.2)))))))) = some (r1, r2, r3, r4) := h
 clear h
 replace H := Option.bind_eq_some_iff.mp H
 obtain ⟨⟨t127, t128, t131, t132⟩, A20, H⟩ := H
 replace H : ((spec_l01Next.f s0_0 t131 t132 30).bind fun bt134 => (if bt134.1 = 0 then ((spec_l01Pick.f s0_0 bt134.2.1 bt134.2.2 (([(-1), 0, 100000, 100001] : List Int))).bind fun bt140 => (some (bt140.1, t128, bt140.2.1, bt140.2.2))) else (if bt134.1 = 1 then ((spec_l01Pick.f s0_0 bt134.2.1 bt134.2.2 (([0, 1, 100000, 100001] : List Int))).bind fun bt146 => (if t128.length < 17592186044416 then (some (t127, (t128 ++ [bt146.1]), bt146.2.1, bt146.2.2)) else (none))) else (if bt134.1 = 2 then (spec_l14Draw.l0 k s0_0 bt134.2.1 bt134.2.2 t127 t128) else (if bt134.1 = 3 then (some (t127, (([] : List Int)), bt134.2.1, bt134.2.2)) else (some (t127, t128, bt134.2.1, bt134.2.2))))))) = some (r1, r2, r3, r4) := H
 have A2 := Aside0.mk A20
 clear A20
 replace H := Option.bind_eq_some_iff.mp H
 obtain ⟨⟨t134, t135, t136⟩, A30, H⟩ := H
 replace H : (if t134 = 0 then ((spec_l01Pick.f s0_0 t135 t136 (([(-1), 0, 100000, 100001] : List Int))).bind fun bt140 => (some (bt140.1, t128, bt140.2.1, bt140.2.2))) else (if t134 = 1 then ((spec_l01Pick.f s0_0 t135 t136 (([0, 1, 100000, 100001] : List Int))).bind fun bt146 => (if t128.length < 17592186044416 then (some (t127, (t128 ++ [bt146.1]), bt146.2.1, bt146.2.2)) else (none))) else (if t134 = 2 then (spec_l14Draw.l0 k s0_0 t135 t136 t127 t128) else (if t134 = 3 then (some (t127, (([] : List Int)), t135, t136)) else (some (t127, t128, t135, t136)))))) = some (r1, r2, r3, r4) := H
 have A3 := Aside0.mk A30
 clear A30
 by_cases c4 : t134 = 0
 ·rw [if_pos c4] at H
  have c4b0 : (t134 == 0) = true := beq_iff_eq.mpr c4
  have c4b1 : (t134 != 0) = false := bne_eq_false_iff_eq.mpr c4
  clear c4
  obtain ⟨y137, hy137⟩ : ∃ y_ : List Int, y_ = (([(-1), 0, 100000, 100001] : List Int)) := ⟨_, rfl⟩
  replace H : ((spec_l01Pick.f s0_0 t135 t136 y137).bind fun bt140 => (some (bt140.1, t128, bt140.2.1, bt140.2.2))) = some (r1, r2, r3, r4) := by first | (rw [hy137]; with_reducible exact H) | (have H2_ := (Option.bind_some _ _).symm.trans H; rw [hy137]; with_reducible exact H2_) | (have H2_ := (Option.bind_some _ _).symm.trans H; with_reducible exact H2_) | with_reducible exact H | (rw [hy137]; exact H) | exact H
  have Ny137 := Aside0.mk hy137
  clear hy137
  replace H := Option.bind_eq_some_iff.mp H
  obtain ⟨⟨t140, t141, t142⟩, A50, H⟩ := H
  replace H : (some (t140, t128, t141, t142)) = some (r1, r2, r3, r4) := H
  have A5 := Aside0.mk A50
  clear A50
  simp only [Option.some.injEq, Prod.mk.injEq] at H
  obtain ⟨rfl, rfl, rfl, rfl⟩ := H
  go_enter Try.func97, Try.ntmps97
  go_wp2_with (first | ((with_reducible refine gate_dst (N := 2) rfl ?_); refine box_event ?hg (N := 2) ?hd (cs := #[.int .i64 0, .slice none 0 0]) (t := 26) ?hr ?_; (case hd => rfl); (case hg => rfl); (case hr => first | (go_simp; done) | (go_simp; rfl)); intro gb126 hg w6 hbox hb; replace HB := Aside0.mk (below_step (r7_ HB.out HI0.out) hb); have BK126 := Aside0.mk (hbox); have GW126 := Aside0.mk ((by rw [hg]; exact (keep_size (w := w) (g := g) (row := none) (r10_ HK.out)) : w.heap.size ≤ gb126)); have GE126 := Aside0.mk ((Nat.le_trans HW0.out (by rw [hg]; exact (keep_size (w := w) (g := g) (row := none) (r10_ HK.out)) : w.heap.size ≤ gb126) : w0.heap.size ≤ gb126)); replace HK := Aside0.mk (KeepBut.trans (r10_ HK.out) (KeepBut.of_below hb g none) (.inl rfl)); have NB0_126 := Aside0.mk ((by rw [hg]; exact Nat.ne_of_lt (IsS183.lt (show IsS183 w0 _ g s0_0 s0_1 s0_2 from r3_ HI0.out)) : g ≠ gb126)); have NB126_0 := Aside0.mk ((by rw [hg]; exact Nat.ne_of_gt (IsS183.lt (show IsS183 w0 _ g s0_0 s0_1 s0_2 from r3_ HI0.out)) : gb126 ≠ g)); replace HI0 := Aside0.mk (IsS183.below (r3_ HI0.out) hb); clear hb hbox hg) | ((with_reducible refine gate_callee (f := 109) rfl ?_); refine goesL_ (some 5) rfl rfl Try.func109 (by kernel_rfl) rfl #[.pointer (some ⟨g, 0, none⟩)] rfl ag_ ?_; (with_reducible refine (spec_l14Good.calls k g s0_0 s0_1 s0_2 t127 t128 t131 t132 w0 _ ?side1 ?side2 A2.out).mono ?_); (case side1 => exact r2_ HI0.out NB0_126.out); (case side2 => exact r5_ HB.out HI0.out GE126.out); rintro e w7 ⟨v129, rfl, ho0, hi, hb, hk⟩; refine ⟨_, rfl, ?_⟩; replace BK126 := Aside0.mk (KeepBut.blk hk (g' := gb126) (o := .cells #[.int .i64 0, .slice none 0 0] 26 (0, 0)) (r0_ BK126.out) NB126_0.out (by simp)); have HO130 := Aside0.mk (Kd.R_lower ho0 (keep_size (w := w) (g := g) (row := none) (r6_ HK.out GW126.out))); replace HK := Aside0.mk (KeepBut.trans (r6_ HK.out GW126.out) hk (.inl rfl)); replace HB := Aside0.mk (hb); replace HI0 := Aside0.mk (hi); (try clear hb); (try clear hb2); (try clear hk); (try clear hi); (try clear ho0)) | ((with_reducible refine gate_dst (N := 3) rfl ?_); refine box_event ?hg (N := 3) ?hd (cs := #[.int .i64 0, .slice none 0 0]) (t := 26) ?hr ?_; (case hd => rfl); (case hg => rfl); (case hr => first | (go_simp; done) | (go_simp; rfl)); intro gb133 hg w8 hbox hb; replace HO130 := Aside0.mk (Kd.R_below (rk_ HO130.out) hb); replace HB := Aside0.mk (below_step (r5_ HB.out HI0.out GE126.out) hb); have BK133 := Aside0.mk (hbox); have GW133 := Aside0.mk ((by rw [hg]; exact (keep_size (w := w) (g := g) (row := none) (r6_ HK.out GW126.out)) : w.heap.size ≤ gb133)); have GE133 := Aside0.mk ((Nat.le_trans HW0.out (by rw [hg]; exact (keep_size (w := w) (g := g) (row := none) (r6_ HK.out GW126.out)) : w.heap.size ≤ gb133) : w0.heap.size ≤ gb133)); replace HK := Aside0.mk (KeepBut.trans (r6_ HK.out GW126.out) (KeepBut.of_below hb g none) (.inl rfl)); have NB126_133 := Aside0.mk ((by rw [hg]; exact Nat.ne_of_lt (blk_lt (g := gb126) (o := .cells #[.int .i64 0, .slice none 0 0] 26 (0, 0)) (r0_ BK126.out)) : gb126 ≠ gb133)); have NB133_126 := Aside0.mk ((by rw [hg]; exact Nat.ne_of_gt (blk_lt (g := gb126) (o := .cells #[.int .i64 0, .slice none 0 0] 26 (0, 0)) (r0_ BK126.out)) : gb133 ≠ gb126)); replace BK126 := Aside0.mk (blk_below (g := gb126) (o := .cells #[.int .i64 0, .slice none 0 0] 26 (0, 0)) (r0_ BK126.out) hb); have NB0_133 := Aside0.mk ((by rw [hg]; exact Nat.ne_of_lt (IsS183.lt (show IsS183 w0 _ g s0_0 t131 t132 from r2_ HI0.out NB0_126.out)) : g ≠ gb133)); have NB133_0 := Aside0.mk ((by rw [hg]; exact Nat.ne_of_gt (IsS183.lt (show IsS183 w0 _ g s0_0 t131 t132 from r2_ HI0.out NB0_126.out)) : gb133 ≠ g)); replace HI0 := Aside0.mk (IsS183.below (r2_ HI0.out NB0_126.out) hb); clear hb hbox hg; have hnb9 := NB133_126.out; have hnc9 := NB126_133.out; have hnb10 := NB133_0.out; have hnc10 := NB0_133.out; have hcz11_0 : w8.cell? ⟨gb133, 0, none⟩ = some (.int .i64 0) := (blk_cell BK133.out 0).trans rfl; have hcz11_1 : w8.cell? ⟨gb133, 1, none⟩ = some (.slice none 0 0) := (blk_cell BK133.out 1).trans rfl; have hfz11_0 := blk_frozen BK133.out 0; have hfz11_1 := blk_frozen BK133.out 1; obtain ⟨Ao12, co12, eo12⟩ := Kd.R_slice HO130.out; subst eo12) | ((with_reducible refine gate_callee (f := 108) rfl ?_); refine goesL_ (some 7) rfl rfl Try.func108 (by kernel_rfl) rfl #[.pointer (some ⟨g, 0, none⟩), .int .i64 30] rfl ag_ ?_; (with_reducible refine (spec_l01Next.calls g s0_0 t131 t132 30 t134 t135 t136 w0 _ ?side1 ?side2 A3.out).mono ?_); (case side1 => exact r4_ HI0.out NB0_126.out NB0_133.out); (case side2 => repeat (first | (with_reducible first | exact HB.out | apply below_alloc | apply pw_below_drewN | apply below_drew1 | refine below_set ?_ (IsS183.ge HI0.out) | refine below_set ?_ GE126.out | refine below_set ?_ GE133.out) | exact HB.out)); rintro e w13 ⟨rfl, hi, hb, hk⟩; refine ⟨_, rfl, ?_⟩; replace BK126 := Aside0.mk (KeepBut.blk hk (g' := gb126) (o := .cells #[.int .i64 0, .slice none 0 0] 26 (0, 0)) (r12_ NB126_133.out BK126.out) NB126_0.out (by simp)); replace HO130 := Aside0.mk (Kd.R_mono (Kd.R_keep (IsS183.apart (show IsS183 w0 _ g s0_0 t131 t132 from r4_ HI0.out NB0_126.out NB0_133.out) (rk_ ((Kd.R_mono (Kd.R_far (p := ⟨gb133, 1, none⟩) (Kd.R_far (p := ⟨gb133, 0, none⟩) (Kd.R_types HO130.out BK133.out (by decide)) (fun _ hk => hk.2) (.int .i64 t127)) (fun _ hk => hk.2) (.slice Ao12 t128.length co12)) (fun _ h_ => h_.1)))) (by decide)) hk (fun _ h => h.2)) (fun _ h => h.1)); replace BK133 := Aside0.mk (KeepBut.blk hk (g' := gb133) (o := .cells #[.int .i64 t127, .slice Ao12 t128.length co12] 26 (0, 0)) (by (with_reducible repeat (first | refine blk_drewN ?_ _ | refine blk_drew ?_ | refine blk_alloc ?_ _)); refine blk_put (cs := #[.int .i64 t127, .slice none 0 0]) ?_ 1 _ rfl; (with_reducible repeat (first | refine blk_drewN ?_ _ | refine blk_drew ?_ | refine blk_alloc ?_ _)); refine blk_put (cs := #[.int .i64 0, .slice none 0 0]) ?_ 0 _ rfl; (with_reducible repeat (first | refine blk_drewN ?_ _ | refine blk_drew ?_ | refine blk_alloc ?_ _)); exact BK133.out) NB133_0.out (by simp)); replace HK := Aside0.mk (KeepBut.trans (r9_ HK.out GW126.out GW133.out) hk (.inl rfl)); replace HB := Aside0.mk (hb); replace HI0 := Aside0.mk (hi); (try clear hb); (try clear hb2); (try clear hk); (try clear hi)) | ((with_reducible refine gate_dst (N := 11) rfl ?_); refine Kd.R_lit (Kd.int .i64) _ 2 ?hg (N := 11) ?hd (xs := ([(-1), 0, 100000, 100001] : List Int)) (inner := [.int .i64 (-1), .int .i64 0, .int .i64 100000, .int .i64 100001]) (ok := fun _ => True) (okp := fun _ => True) ?hr ?hp (fun _ hk => hk) trivial (Below.refl _ _) (Nat.le_refl _) (by simp) ?_; (case hd => rfl); (case hg => rfl); (case hr => first | (go_simp; done) | (go_simp; rfl)); (case hp => exact (Reps.one (show Kd.M (Kd.int .i64) _ _ _ (-1) [.int .i64 (-1)] from rfl) (Reps.one (show Kd.M (Kd.int .i64) _ _ _ 0 [.int .i64 0] from rfl) (Reps.one (show Kd.M (Kd.int .i64) _ _ _ 100000 [.int .i64 100000] from rfl) (Reps.one (show Kd.M (Kd.int .i64) _ _ _ 100001 [.int .i64 100001] from rfl) (Reps.none _ _)))))); intro v138 w14 ho15 hb hg_ hnew_; clear hg_ hnew_; (first | rw [← Ny137.out] at ho15 | (simp only [Int.reduceToNat] at ho15; rw [← Ny137.out] at ho15)); have HO139 := Aside0.mk (Kd.R_lower (Kd.R_new' ho15 (Kd.R_lt (rk_ HO130.out))) (keep_size (w := w) (g := g) (row := none) (r9_ HK.out GW126.out GW133.out))); replace HO130 := Aside0.mk (Kd.R_elder' (rk_ HO130.out) (Kd.R_base ho15) hb); replace BK126 := Aside0.mk (blk_below (g := gb126) (o := .cells #[.int .i64 0, .slice none 0 0] 26 (0, 0)) (r0_ BK126.out) hb); replace BK133 := Aside0.mk (blk_below (g := gb133) (o := .cells #[.int .i64 t127, .slice Ao12 t128.length co12] 26 (0, 0)) (r0_ BK133.out) hb); replace HK := Aside0.mk (KeepBut.trans (r9_ HK.out GW126.out GW133.out) (KeepBut.of_below hb g none) (.inl rfl)); replace HB := Aside0.mk (below_step (by repeat (first | (with_reducible first | exact HB.out | apply below_alloc | apply pw_below_drewN | apply below_drew1 | refine below_set ?_ (IsS183.ge HI0.out) | refine below_set ?_ GE126.out | refine below_set ?_ GE133.out) | exact HB.out)) hb); replace HI0 := Aside0.mk (IsS183.below (r4_ HI0.out NB0_126.out NB0_133.out) hb); clear hb ho15; obtain ⟨Ao16, co16, eo16⟩ := Kd.R_slice HO139.out; subst eo16) | ((with_reducible refine gate_callee (f := 99) rfl ?_); refine goesL_ (some 12) rfl rfl Try.func99 (by kernel_rfl) rfl #[.pointer (some ⟨g, 0, none⟩), .slice Ao16 y137.length co16] rfl ag_ ?_; (with_reducible refine (spec_l01Pick.calls g s0_0 t135 t136 _ _ y137 t140 t141 t142 w0 _ ?side1 ?side2 ?side3 ?side4 ?side5 A5.out).mono ?_); (case side1 => exact r4_ HI0.out NB0_126.out NB0_133.out); (case side2 => repeat (first | (with_reducible first | exact HB.out | apply below_alloc | apply pw_below_drewN | apply below_drew1 | refine below_set ?_ (IsS183.ge HI0.out) | refine below_set ?_ GE126.out | refine below_set ?_ GE133.out) | exact HB.out)); (case side3 => exact r11_ HO139.out); (case side4 => exact (Kd.R_reads' HO139.out).2.1); (case side5 => exact far_slice (IsS183.own_ne HI0.out HO139.out (by decide))); rintro e w17 ⟨rfl, hi, hb, hk⟩; refine ⟨_, rfl, ?_⟩; replace BK126 := Aside0.mk (KeepBut.blk hk (g' := gb126) (o := .cells #[.int .i64 0, .slice none 0 0] 26 (0, 0)) (r0_ BK126.out) NB126_0.out (by simp)); replace HO130 := Aside0.mk (Kd.R_mono (Kd.R_keep (IsS183.apart (show IsS183 w0 _ g s0_0 t135 t136 from r4_ HI0.out NB0_126.out NB0_133.out) (rk_ HO130.out) (by decide)) hk (fun _ h => h.2)) (fun _ h => h.1)); replace BK133 := Aside0.mk (KeepBut.blk hk (g' := gb133) (o := .cells #[.int .i64 t127, .slice Ao12 t128.length co12] 26 (0, 0)) (r0_ BK133.out) NB133_0.out (by simp)); replace HO139 := Aside0.mk (Kd.R_mono (Kd.R_keep (IsS183.apart (show IsS183 w0 _ g s0_0 t135 t136 from r4_ HI0.out NB0_126.out NB0_133.out) (rk_ HO139.out) (by decide)) hk (fun _ h => h.2)) (fun _ h => h.1)); replace HK := Aside0.mk (KeepBut.trans (r9_ HK.out GW126.out GW133.out) hk (.inl rfl)); replace HB := Aside0.mk (hb); replace HI0 := Aside0.mk (hi); (try clear hb); (try clear hb2); (try clear hk); (try clear hi); have hcz18_0 : w17.cell? ⟨gb133, 0, none⟩ = some (.int .i64 t127) := (blk_cell BK133.out 0).trans rfl; have hcz18_1 : w17.cell? ⟨gb133, 1, none⟩ = some (.slice Ao12 t128.length co12) := (blk_cell BK133.out 1).trans rfl; have hfz18_0 := blk_frozen BK133.out 0; have hfz18_1 := blk_frozen BK133.out 1; have hnb19 := NB126_0.out; have hnc19 := NB0_126.out; have hcz20_0 : w17.cell? ⟨gb126, 0, none⟩ = some (.int .i64 0) := (blk_cell BK126.out 0).trans rfl; have hcz20_1 : w17.cell? ⟨gb126, 1, none⟩ = some (.slice none 0 0) := (blk_cell BK126.out 1).trans rfl; have hfz20_0 := blk_frozen BK126.out 0; have hfz20_1 := blk_frozen BK126.out 1))
  refine bodyPost_ret (results_cell_row rfl _ _ gb126 26 #[.int .i64 t140, .slice Ao12 t128.length co12] (0, 0) _ rfl (by (with_reducible repeat (first | refine blk_drewN ?_ _ | refine blk_drew ?_ | refine blk_alloc ?_ _)); refine blk_put (cs := #[.int .i64 t140, .slice none 0 0]) ?_ 1 _ rfl; (with_reducible repeat (first | refine blk_drewN ?_ _ | refine blk_drew ?_ | refine blk_alloc ?_ _)); refine blk_put (cs := #[.int .i64 0, .slice none 0 0]) ?_ 0 _ rfl; (with_reducible repeat (first | refine blk_drewN ?_ _ | refine blk_drew ?_ | refine blk_alloc ?_ _)); refine blk_far ?_ NB126_133.out _; (with_reducible repeat (first | refine blk_drewN ?_ _ | refine blk_drew ?_ | refine blk_alloc ?_ _)); exact BK126.out) Try.underlying26 rfl (by kernel_rfl)) rfl ?_
  exact ⟨_, by first | rfl | (simp [errW_none, errW_some] <;> rfl) | (simp [*, errW_none, errW_some] <;> rfl), rk_ (Kd.R_mono (Kd.R_far (p := ⟨gb126, 1, none⟩) (Kd.R_far (p := ⟨gb126, 0, none⟩) (Kd.R_far (p := ⟨gb133, 0, none⟩) (Kd.R_types (Kd.R_types HO130.out BK133.out (by decide)) BK126.out (by decide)) (fun _ hk => hk.1.2) (.int .i64 t140)) (fun _ hk => hk.2) (.int .i64 t140)) (fun _ hk => hk.2) (.slice Ao12 t128.length co12)) (fun _ hk => trivial)), r4_ HI0.out NB0_126.out NB0_133.out, by repeat (first | (with_reducible first | exact HB.out | apply below_alloc | apply pw_below_drewN | apply below_drew1 | refine below_set ?_ (IsS183.ge HI0.out) | refine below_set ?_ GE126.out | refine below_set ?_ GE133.out) | exact HB.out), r9_ HK.out GW126.out GW133.out⟩
 ·rw [if_neg c4] at H
  have c4b0 : (t134 == 0) = false := beq_eq_false_iff_ne.mpr c4
  have c4b1 : (t134 != 0) = true := bne_iff_ne.mpr c4
  by_cases c21 : t134 = 1
  ·rw [if_pos c21] at H
   have c21b0 : (t134 == 1) = true := beq_iff_eq.mpr c21
   have c21b1 : (t134 != 1) = false := bne_eq_false_iff_eq.mpr c21
   clear c21
   obtain ⟨y143, hy143⟩ : ∃ y_ : List Int, y_ = (([0, 1, 100000, 100001] : List Int)) := ⟨_, rfl⟩
   replace H : ((spec_l01Pick.f s0_0 t135 t136 y143).bind fun bt146 => (if t128.length < 17592186044416 then (some (t127, (t128 ++ [bt146.1]), bt146.2.1, bt146.2.2)) else (none))) = some (r1, r2, r3, r4) := by first | (rw [hy143]; with_reducible exact H) | (have H2_ := (Option.bind_some _ _).symm.trans H; rw [hy143]; with_reducible exact H2_) | (have H2_ := (Option.bind_some _ _).symm.trans H; with_reducible exact H2_) | with_reducible exact H | (rw [hy143]; exact H) | exact H
   have Ny143 := Aside0.mk hy143
   clear hy143
   replace H := Option.bind_eq_some_iff.mp H
   obtain ⟨⟨t146, t147, t148⟩, A220, H⟩ := H
   replace H : (if t128.length < 17592186044416 then (some (t127, (t128 ++ [t146]), t147, t148)) else (none)) = some (r1, r2, r3, r4) := H
   have A22 := Aside0.mk A220
   clear A220
   by_cases c23 : t128.length < 17592186044416
   case neg =>
    rw [if_neg c23] at H
    exact absurd H (by simp)
   rw [if_pos c23] at H
   have LMc23 := Aside0.mk c23
   clear c23
   obtain ⟨y149, hy149⟩ : ∃ y_ : List Int, y_ = (t128 ++ [t146]) := ⟨_, rfl⟩
   replace H : (some (t127, y149, t147, t148)) = some (r1, r2, r3, r4) := by first | (rw [hy149]; with_reducible exact H) | (have H2_ := (Option.bind_some _ _).symm.trans H; rw [hy149]; with_reducible exact H2_) | (have H2_ := (Option.bind_some _ _).symm.trans H; with_reducible exact H2_) | with_reducible exact H | (rw [hy149]; exact H) | exact H
   have Ny149 := Aside0.mk hy149
   clear hy149
   simp only [Option.some.injEq, Prod.mk.injEq] at H
   obtain ⟨rfl, rfl, rfl, rfl⟩ := H
   go_enter Try.func97, Try.ntmps97
   try go_wp2_with (first | ((with_reducible refine gate_dst (N := 2) rfl ?_); refine box_event ?hg (N := 2) ?hd (cs := #[.int .i64 0, .slice none 0 0]) (t := 26) ?hr ?_; (case hd => rfl); (case hg => rfl); (case hr => first | (go_simp; done) | (go_simp; rfl)); intro gb126 hg w24 hbox hb; replace HB := Aside0.mk (below_step (r7_ HB.out HI0.out) hb); have BK126 := Aside0.mk (hbox); have GW126 := Aside0.mk ((by rw [hg]; exact (keep_size (w := w) (g := g) (row := none) (r10_ HK.out)) : w.heap.size ≤ gb126)); have GE126 := Aside0.mk ((Nat.le_trans HW0.out (by rw [hg]; exact (keep_size (w := w) (g := g) (row := none) (r10_ HK.out)) : w.heap.size ≤ gb126) : w0.heap.size ≤ gb126)); replace HK := Aside0.mk (KeepBut.trans (r10_ HK.out) (KeepBut.of_below hb g none) (.inl rfl)); have NB0_126 := Aside0.mk ((by rw [hg]; exact Nat.ne_of_lt (IsS183.lt (show IsS183 w0 _ g s0_0 s0_1 s0_2 from r3_ HI0.out)) : g ≠ gb126)); have NB126_0 := Aside0.mk ((by rw [hg]; exact Nat.ne_of_gt (IsS183.lt (show IsS183 w0 _ g s0_0 s0_1 s0_2 from r3_ HI0.out)) : gb126 ≠ g)); replace HI0 := Aside0.mk (IsS183.below (r3_ HI0.out) hb); clear hb hbox hg) | ((with_reducible refine gate_callee (f := 109) rfl ?_); refine goesL_ (some 5) rfl rfl Try.func109 (by kernel_rfl) rfl #[.pointer (some ⟨g, 0, none⟩)] rfl ag_ ?_; (with_reducible refine (spec_l14Good.calls k g s0_0 s0_1 s0_2 t127 t128 t131 t132 w0 _ ?side1 ?side2 A2.out).mono ?_); (case side1 => exact r2_ HI0.out NB0_126.out); (case side2 => exact r5_ HB.out HI0.out GE126.out); rintro e w25 ⟨v129, rfl, ho0, hi, hb, hk⟩; refine ⟨_, rfl, ?_⟩; replace BK126 := Aside0.mk (KeepBut.blk hk (g' := gb126) (o := .cells #[.int .i64 0, .slice none 0 0] 26 (0, 0)) (r0_ BK126.out) NB126_0.out (by simp)); have HO130 := Aside0.mk (Kd.R_lower ho0 (keep_size (w := w) (g := g) (row := none) (r6_ HK.out GW126.out))); replace HK := Aside0.mk (KeepBut.trans (r6_ HK.out GW126.out) hk (.inl rfl)); replace HB := Aside0.mk (hb); replace HI0 := Aside0.mk (hi); (try clear hb); (try clear hb2); (try clear hk); (try clear hi); (try clear ho0)) | ((with_reducible refine gate_dst (N := 3) rfl ?_); refine box_event ?hg (N := 3) ?hd (cs := #[.int .i64 0, .slice none 0 0]) (t := 26) ?hr ?_; (case hd => rfl); (case hg => rfl); (case hr => first | (go_simp; done) | (go_simp; rfl)); intro gb133 hg w26 hbox hb; replace HO130 := Aside0.mk (Kd.R_below (rk_ HO130.out) hb); replace HB := Aside0.mk (below_step (r5_ HB.out HI0.out GE126.out) hb); have BK133 := Aside0.mk (hbox); have GW133 := Aside0.mk ((by rw [hg]; exact (keep_size (w := w) (g := g) (row := none) (r6_ HK.out GW126.out)) : w.heap.size ≤ gb133)); have GE133 := Aside0.mk ((Nat.le_trans HW0.out (by rw [hg]; exact (keep_size (w := w) (g := g) (row := none) (r6_ HK.out GW126.out)) : w.heap.size ≤ gb133) : w0.heap.size ≤ gb133)); replace HK := Aside0.mk (KeepBut.trans (r6_ HK.out GW126.out) (KeepBut.of_below hb g none) (.inl rfl)); have NB126_133 := Aside0.mk ((by rw [hg]; exact Nat.ne_of_lt (blk_lt (g := gb126) (o := .cells #[.int .i64 0, .slice none 0 0] 26 (0, 0)) (r0_ BK126.out)) : gb126 ≠ gb133)); have NB133_126 := Aside0.mk ((by rw [hg]; exact Nat.ne_of_gt (blk_lt (g := gb126) (o := .cells #[.int .i64 0, .slice none 0 0] 26 (0, 0)) (r0_ BK126.out)) : gb133 ≠ gb126)); replace BK126 := Aside0.mk (blk_below (g := gb126) (o := .cells #[.int .i64 0, .slice none 0 0] 26 (0, 0)) (r0_ BK126.out) hb); have NB0_133 := Aside0.mk ((by rw [hg]; exact Nat.ne_of_lt (IsS183.lt (show IsS183 w0 _ g s0_0 t131 t132 from r2_ HI0.out NB0_126.out)) : g ≠ gb133)); have NB133_0 := Aside0.mk ((by rw [hg]; exact Nat.ne_of_gt (IsS183.lt (show IsS183 w0 _ g s0_0 t131 t132 from r2_ HI0.out NB0_126.out)) : gb133 ≠ g)); replace HI0 := Aside0.mk (IsS183.below (r2_ HI0.out NB0_126.out) hb); clear hb hbox hg; have hnb27 := NB133_126.out; have hnc27 := NB126_133.out; have hnb28 := NB133_0.out; have hnc28 := NB0_133.out; have hcz29_0 : w26.cell? ⟨gb133, 0, none⟩ = some (.int .i64 0) := (blk_cell BK133.out 0).trans rfl; have hcz29_1 : w26.cell? ⟨gb133, 1, none⟩ = some (.slice none 0 0) := (blk_cell BK133.out 1).trans rfl; have hfz29_0 := blk_frozen BK133.out 0; have hfz29_1 := blk_frozen BK133.out 1; obtain ⟨Ao30, co30, eo30⟩ := Kd.R_slice HO130.out; subst eo30) | ((with_reducible refine gate_callee (f := 108) rfl ?_); refine goesL_ (some 7) rfl rfl Try.func108 (by kernel_rfl) rfl #[.pointer (some ⟨g, 0, none⟩), .int .i64 30] rfl ag_ ?_; (with_reducible refine (spec_l01Next.calls g s0_0 t131 t132 30 t134 t135 t136 w0 _ ?side1 ?side2 A3.out).mono ?_); (case side1 => exact r4_ HI0.out NB0_126.out NB0_133.out); (case side2 => repeat (first | (with_reducible first | exact HB.out | apply below_alloc | apply pw_below_drewN | apply below_drew1 | refine below_set ?_ (IsS183.ge HI0.out) | refine below_set ?_ GE126.out | refine below_set ?_ GE133.out) | exact HB.out)); rintro e w31 ⟨rfl, hi, hb, hk⟩; refine ⟨_, rfl, ?_⟩; replace BK126 := Aside0.mk (KeepBut.blk hk (g' := gb126) (o := .cells #[.int .i64 0, .slice none 0 0] 26 (0, 0)) (r12_ NB126_133.out BK126.out) NB126_0.out (by simp)); replace HO130 := Aside0.mk (Kd.R_mono (Kd.R_keep (IsS183.apart (show IsS183 w0 _ g s0_0 t131 t132 from r4_ HI0.out NB0_126.out NB0_133.out) (rk_ ((Kd.R_mono (Kd.R_far (p := ⟨gb133, 1, none⟩) (Kd.R_far (p := ⟨gb133, 0, none⟩) (Kd.R_types HO130.out BK133.out (by decide)) (fun _ hk => hk.2) (.int .i64 t127)) (fun _ hk => hk.2) (.slice Ao30 t128.length co30)) (fun _ h_ => h_.1)))) (by decide)) hk (fun _ h => h.2)) (fun _ h => h.1)); replace BK133 := Aside0.mk (KeepBut.blk hk (g' := gb133) (o := .cells #[.int .i64 t127, .slice Ao30 t128.length co30] 26 (0, 0)) (by (with_reducible repeat (first | refine blk_drewN ?_ _ | refine blk_drew ?_ | refine blk_alloc ?_ _)); refine blk_put (cs := #[.int .i64 t127, .slice none 0 0]) ?_ 1 _ rfl; (with_reducible repeat (first | refine blk_drewN ?_ _ | refine blk_drew ?_ | refine blk_alloc ?_ _)); refine blk_put (cs := #[.int .i64 0, .slice none 0 0]) ?_ 0 _ rfl; (with_reducible repeat (first | refine blk_drewN ?_ _ | refine blk_drew ?_ | refine blk_alloc ?_ _)); exact BK133.out) NB133_0.out (by simp)); replace HK := Aside0.mk (KeepBut.trans (r9_ HK.out GW126.out GW133.out) hk (.inl rfl)); replace HB := Aside0.mk (hb); replace HI0 := Aside0.mk (hi); (try clear hb); (try clear hb2); (try clear hk); (try clear hi)))
   replace HO130 := Aside0.mk (Kd.R_drew HO130.out)
   replace BK126 := Aside0.mk (blk_drew BK126.out)
   replace BK133 := Aside0.mk (blk_drew BK133.out)
   replace HI0 := Aside0.mk (IsS183.drew HI0.out)
   replace HK := Aside0.mk (keep_drew HK.out)
   replace HB := Aside0.mk (below_drew1 HB.out)
   refine start_ (n := 9) (S := fun w' => w'.cell? ⟨gb133, 0, none⟩ = some (.int .i64 t127) ∧ w'.cell? ⟨gb133, 1, none⟩ = some (.slice Ao30 t128.length co30)) (ds := [8]) #[f_,f_,f_,f_,f_,f_,f_,f_,f_] (by kernel_rfl) rfl rfl ⟨(blk_cell BK133.out 0).trans rfl, (blk_cell BK133.out 1).trans rfl⟩ (fun hHeld => ?_); refine with_tabW spec_l14Draw.tab6 spec_l14Draw.bits6 (fun HT_ HW_ => ?_)
   generalize w31.drew = w32 at HO130 BK126 BK133 HI0 HK HB hHeld ⊢
   refine pu_ 0 16 #[t_,f_,f_,f_,f_,f_,f_,f_,f_] HT_.out ?_
   refine pu_ 2 18 #[t_,f_,t_,f_,f_,f_,f_,f_,f_] HT_.out ?_
   refine take_ (i := 1) (N := some 17) (v := ?_) (a' := ?_) #[t_,t_,t_,f_,f_,f_,f_,f_,f_] rfl rfl (take_ofW HT_.out HW_.out (by kernel_rfl)) (fun _ _ _ h => h) (Or.inl ⟨by rfl, ?_⟩) hHeld ?_ ?_
   rotate_left
   ·rintro w' ⟨s0, s1⟩
    go_simp
    with_reducible rfl
   rotate_left
   ·simp only [pz_]
    rfl
   refine one_ (i := 3) (N := some 19) #[t_,t_,t_,t_,f_,f_,f_,f_,f_] rfl rfl (one_of HT_.out (by kernel_rfl)) (by decide) (fun K hK => ?_)
   refine Kd.R_lit_step (Kd.int .i64) _ 2 ?hg (N := 19) ?hd (xs := ([0, 1, 100000, 100001] : List Int)) (inner := [.int .i64 0, .int .i64 1, .int .i64 100000, .int .i64 100001]) (ok := fun _ => True) (okp := fun _ => True) ?hr ?hp (fun _ hk => hk) trivial (Below.refl _ _) (Nat.le_refl _) (by simp) ?_; (case hd => rfl); (case hg => rfl); (case hr => first | (go_simp; done) | (go_simp; rfl)); (case hp => exact (Reps.one (show Kd.M (Kd.int .i64) _ _ _ 0 [.int .i64 0] from rfl) (Reps.one (show Kd.M (Kd.int .i64) _ _ _ 1 [.int .i64 1] from rfl) (Reps.one (show Kd.M (Kd.int .i64) _ _ _ 100000 [.int .i64 100000] from rfl) (Reps.one (show Kd.M (Kd.int .i64) _ _ _ 100001 [.int .i64 100001] from rfl) (Reps.none _ _))))))
   intro v144 w33 ho34 hb hg_ hnew_
   clear hg_ hnew_
   (first | rw [← Ny143.out] at ho34 | (simp only [Int.reduceToNat] at ho34; rw [← Ny143.out] at ho34))
   have HO145 := Aside0.mk (Kd.R_lower (Kd.R_new' ho34 (Kd.R_lt (rk_ HO130.out))) (keep_size (w := w) (g := g) (row := none) (r9_ HK.out GW126.out GW133.out)))
   replace HO130 := Aside0.mk (Kd.R_elder' (rk_ HO130.out) (Kd.R_base ho34) hb)
   replace BK126 := Aside0.mk (blk_below (g := gb126) (o := .cells #[.int .i64 0, .slice none 0 0] 26 (0, 0)) (r0_ BK126.out) hb)
   replace BK133 := Aside0.mk (blk_below (g := gb133) (o := .cells #[.int .i64 t127, .slice Ao30 t128.length co30] 26 (0, 0)) (r0_ BK133.out) hb)
   replace HK := Aside0.mk (KeepBut.trans (r9_ HK.out GW126.out GW133.out) (KeepBut.of_below hb g none) (.inl rfl))
   replace HB := Aside0.mk (below_step (by repeat (first | (with_reducible first | exact HB.out | apply below_alloc | apply pw_below_drewN | apply below_drew1 | refine below_set ?_ (IsS183.ge HI0.out) | refine below_set ?_ GE126.out | refine below_set ?_ GE133.out) | exact HB.out)) hb)
   replace HI0 := Aside0.mk (IsS183.below (r4_ HI0.out NB0_126.out NB0_133.out) hb)
   clear hb ho34
   obtain ⟨Ao35, co35, eo35⟩ := Kd.R_slice HO145.out
   (first | subst eo35 | (injection eo35 with f1_ f2_ f3_; have f4_ := f1_.symm; have f5_ := f3_.symm; clear f1_ f2_ f3_; subst f4_; subst f5_))
   refine hK.out _ _ ⟨(blk_cell BK133.out 0).trans rfl, (blk_cell BK133.out 1).trans rfl⟩ (fun hHeld => ?_)
   clear hK K
   refine norm_ (a' := ?_) ?_ ?_
   rotate_left
   ·show Act.put _ (some 19) _ = _
    simp only [pz_]
    rfl
   refine one_ (i := 4) (N := some 20) #[t_,t_,t_,t_,t_,f_,f_,f_,f_] rfl rfl (one_of HT_.out (by kernel_rfl)) (by decide) (fun K hK => ?_)
   refine goes_ Try.func99 (by kernel_rfl) rfl #[.pointer (some ⟨g, 0, none⟩), .slice Ao35 y143.length co35] (by rfl) rfl rfl ag_ ?_
   with_reducible refine (spec_l01Pick.calls g s0_0 t135 t136 _ _ y143 t146 t147 t148 w0 _ ?side1 ?side2 ?side3 ?side4 ?side5 A22.out).mono ?_
   (case side1 => exact r4_ HI0.out NB0_126.out NB0_133.out)
   (case side2 => repeat (first | (with_reducible first | exact HB.out | apply below_alloc | apply pw_below_drewN | apply below_drew1 | refine below_set ?_ (IsS183.ge HI0.out) | refine below_set ?_ GE126.out | refine below_set ?_ GE133.out) | exact HB.out))
   (case side3 => exact r11_ HO145.out)
   (case side4 => exact (Kd.R_reads' HO145.out).2.1)
   (case side5 => exact far_slice (IsS183.own_ne HI0.out HO145.out (by decide)))
   rintro e w36 ⟨rfl, hi, hb, hk⟩
   refine ⟨_, rfl, ?_⟩
   replace BK126 := Aside0.mk (KeepBut.blk hk (g' := gb126) (o := .cells #[.int .i64 0, .slice none 0 0] 26 (0, 0)) (r0_ BK126.out) NB126_0.out (by simp))
   replace HO130 := Aside0.mk (Kd.R_mono (Kd.R_keep (IsS183.apart (show IsS183 w0 _ g s0_0 t135 t136 from r4_ HI0.out NB0_126.out NB0_133.out) (rk_ HO130.out) (by decide)) hk (fun _ h => h.2)) (fun _ h => h.1))
   replace BK133 := Aside0.mk (KeepBut.blk hk (g' := gb133) (o := .cells #[.int .i64 t127, .slice Ao30 t128.length co30] 26 (0, 0)) (r0_ BK133.out) NB133_0.out (by simp))
   replace HO145 := Aside0.mk (Kd.R_mono (Kd.R_keep (IsS183.apart (show IsS183 w0 _ g s0_0 t135 t136 from r4_ HI0.out NB0_126.out NB0_133.out) (rk_ HO145.out) (by decide)) hk (fun _ h => h.2)) (fun _ h => h.1))
   replace HK := Aside0.mk (KeepBut.trans (r9_ HK.out GW126.out GW133.out) hk (.inl rfl))
   replace HB := Aside0.mk (hb)
   replace HI0 := Aside0.mk (hi)
   (try clear hb)
   (try clear hb2)
   (try clear hk)
   (try clear hi)
   refine hK.out _ _ ⟨(blk_cell BK133.out 0).trans rfl, (blk_cell BK133.out 1).trans rfl⟩ (fun hHeld => ?_)
   clear hK K
   refine norm_ (a' := ?_) ?_ ?_
   rotate_left
   ·show Act.put _ (some 20) _ = _
    simp only [pz_]
    rfl
   refine one_ (i := 5) (N := some 21) #[t_,t_,t_,t_,t_,t_,f_,f_,f_] rfl rfl (one_of HT_.out (by kernel_rfl)) (by decide) (fun K hK => ?_)
   refine value_ (w1 := ?_) (v := ?_) (by rfl) rfl ?_ ?_
   rotate_left 2
   ·go_simp
    constructor
    ·rfl
    ·rfl
   refine hK.out _ _ ⟨(blk_cell (blk_alloc BK133.out _) 0).trans rfl, (blk_cell (blk_alloc BK133.out _) 1).trans rfl⟩ (fun hHeld => ?_)
   clear hK K
   refine norm_ (a' := ?_) ?_ ?_
   rotate_left
   ·show Act.put _ (some 21) _ = _
    simp only [pz_]
    rfl
   refine one_ (i := 6) (N := some 22) #[t_,t_,t_,t_,t_,t_,t_,f_,f_] rfl rfl (one_of HT_.out (by kernel_rfl)) (by decide) (fun K hK => ?_)
   refine Kd.R_append_step (Kd.int .i64) w.heap.size (by rfl) (.tmp 17) (.tmp 21) 24 2 (.int .i64 0) 8 rfl Try.underlying24 info2 rfl (by decide) (by omega) (.slice Ao30 t128.length co30) t128 t146 [.int .i64 t146] (fun k_ => some k_ ≠ (.slice Ao35 y143.length co35 : Value).ownBlock) (fun _ => False) rfl rfl ?aP (fun _ hk => hk.elim) ?aF ?aO (Below.refl _ _) ?aS ?aL ?_
   (case aP => exact rfl)
   (case aF => exact (fun k_ hk => Kd.fresh' (Kd.R_lt (rk_ HO145.out)) k_ hk))
   (case aO => exact (rk_ (Kd.R_mono HO130.out (fun _ hk => hk.2))))
   (case aS => exact (keep_size (w := w) (g := g) (row := none) (r9_ HK.out GW126.out GW133.out)))
   (case aL => have := LMc23.out; omega)
   intro v150 w37 ho hb hg hat
   rw [← Ny149.out] at ho
   have n0_ := Aside0.mk (IsS183.grown (r4_ HI0.out NB0_126.out NB0_133.out) hg (IsS183.own_ne HI0.out HO130.out (by decide)))
   have n1_ := Aside0.mk (blk_grown (g := gb126) (o := .cells #[.int .i64 0, .slice none 0 0] 26 (0, 0)) (r0_ BK126.out) hg (Kd.R_ne HO130.out BK126.out (by decide)))
   have n2_ := Aside0.mk (blk_grown (g := gb133) (o := .cells #[.int .i64 t127, .slice Ao30 t128.length co30] 26 (0, 0)) (r0_ BK133.out) hg (Kd.R_ne HO130.out BK133.out (by decide)))
   have n3_ := Aside0.mk (Kd.R_after (ok := (fun _ => True)) (rk_ HO145.out) hg hat)
   have n4_ := Aside0.mk (below_weaken (by repeat (first | (with_reducible first | exact HB.out | apply below_alloc | apply pw_below_drewN | apply below_drew1 | refine below_set ?_ (IsS183.ge HI0.out) | refine below_set ?_ GE126.out | refine below_set ?_ GE133.out) | exact HB.out)) HL.out hb)
   have n5_ := Aside0.mk (KeepBut.trans (r9_ HK.out GW126.out GW133.out) (KeepBut.of_grown hg g) (Kd.R_base2 HO130.out))
   have n6_ := Aside0.mk (ho)
   clear HI0
   clear BK126
   clear BK133
   clear HO145
   clear HB
   clear HK
   clear HO130
   have HI0 := n0_
   have BK126 := n1_
   have BK133 := n2_
   have HO145 := n3_
   have HB := n4_
   have HK := n5_
   have HO151 := n6_
   clear n0_ n1_ n2_ n3_ n4_ n5_ n6_
   clear ho hb hg hat
   obtain ⟨Ao38, co38, eo38⟩ := Kd.R_slice HO151.out
   (first | subst eo38 | (injection eo38 with f1_ f2_ f3_; have f4_ := f1_.symm; have f5_ := f3_.symm; clear f1_ f2_ f3_; subst f4_; subst f5_))
   refine hK.out _ _ ⟨(blk_cell BK133.out 0).trans rfl, (blk_cell BK133.out 1).trans rfl⟩ (fun hHeld => ?_)
   clear hK K
   refine norm_ (a' := ?_) ?_ ?_
   rotate_left
   ·show Act.put _ (some 22) _ = _
    simp only [pz_]
    rfl
   refine pu_ 7 23 #[t_,t_,t_,t_,t_,t_,t_,t_,f_] HT_.out ?_
   refine last_ (i := 8) (N := none) #[t_,t_,t_,t_,t_,t_,t_,t_,t_] rfl rfl (one_of HT_.out (by kernel_rfl)) (by decide) (fun K hK => ?_)
   have hs39 : w37.cell? ⟨gb133, 1, none⟩ = some (.slice Ao30 t128.length co30) := (blk_cell BK133.out 1).trans rfl
   have hfs39 := blk_frozen BK133.out 1
   have hns39_0 := NB126_133.out
   have hms39_0 := NB133_126.out
   refine skip_ (w1 := ?_) (by rfl) rfl ?_ ?_
   rotate_left
   ·go_simp
    rfl
   refine hK.out _ _ ?_
   clear hK K
   refine done_ (done_of HT_.out (by kernel_rfl)) ?_
   have hcz40_0 : w37.cell? ⟨gb133, 0, none⟩ = some (.int .i64 t127) := (blk_cell BK133.out 0).trans rfl
   have hcz40_1 : w37.cell? ⟨gb133, 1, none⟩ = some (.slice Ao30 t128.length co30) := (blk_cell BK133.out 1).trans rfl
   have hfz40_0 := blk_frozen BK133.out 0
   have hfz40_1 := blk_frozen BK133.out 1
   have hnb41 := NB126_0.out
   have hnc41 := NB0_126.out
   have hcz42_0 : w37.cell? ⟨gb126, 0, none⟩ = some (.int .i64 0) := (blk_cell BK126.out 0).trans rfl
   have hcz42_1 : w37.cell? ⟨gb126, 1, none⟩ = some (.slice none 0 0) := (blk_cell BK126.out 1).trans rfl
   have hfz42_0 := blk_frozen BK126.out 0
   have hfz42_1 := blk_frozen BK126.out 1
   try go_wp2
   refine bodyPost_ret (results_cell_row rfl _ _ gb126 26 #[.int .i64 t127, .slice Ao38 y149.length co38] (0, 0) _ rfl (by (with_reducible repeat (first | refine blk_drewN ?_ _ | refine blk_drew ?_ | refine blk_alloc ?_ _)); refine blk_put (cs := #[.int .i64 t127, .slice none 0 0]) ?_ 1 _ rfl; (with_reducible repeat (first | refine blk_drewN ?_ _ | refine blk_drew ?_ | refine blk_alloc ?_ _)); refine blk_put (cs := #[.int .i64 0, .slice none 0 0]) ?_ 0 _ rfl; (with_reducible repeat (first | refine blk_drewN ?_ _ | refine blk_drew ?_ | refine blk_alloc ?_ _)); refine blk_far ?_ NB126_133.out _; (with_reducible repeat (first | refine blk_drewN ?_ _ | refine blk_drew ?_ | refine blk_alloc ?_ _)); exact BK126.out) Try.underlying26 rfl (by kernel_rfl)) rfl ?_
   exact ⟨_, by first | rfl | (simp [errW_none, errW_some] <;> rfl) | (simp [*, errW_none, errW_some] <;> rfl), rk_ (Kd.R_mono (Kd.R_far (p := ⟨gb126, 1, none⟩) (Kd.R_far (p := ⟨gb126, 0, none⟩) (Kd.R_far (p := ⟨gb133, 1, none⟩) (Kd.R_types (Kd.R_types HO151.out BK133.out (by decide)) BK126.out (by decide)) (fun _ hk => hk.1.2) (.slice Ao38 y149.length co38)) (fun _ hk => hk.2) (.int .i64 t127)) (fun _ hk => hk.2) (.slice Ao38 y149.length co38)) (fun _ hk => trivial)), r4_ HI0.out NB0_126.out NB0_133.out, by repeat (first | (with_reducible first | exact HB.out | apply below_alloc | apply pw_below_drewN | apply below_drew1 | refine below_set ?_ (IsS183.ge HI0.out) | refine below_set ?_ GE126.out | refine below_set ?_ GE133.out) | exact HB.out), r9_ HK.out GW126.out GW133.out⟩
  ·rw [if_neg c21] at H
   have c21b0 : (t134 == 1) = false := beq_eq_false_iff_ne.mpr c21
   have c21b1 : (t134 != 1) = true := bne_iff_ne.mpr c21
   by_cases c43 : t134 = 2
   ·rw [if_pos c43] at H
    have c43b0 : (t134 == 2) = true := beq_iff_eq.mpr c43
    have c43b1 : (t134 != 2) = false := bne_eq_false_iff_eq.mpr c43
    clear c43
    have H' := Aside0.mk H
    clear H
    go_enter Try.func97, Try.ntmps97
    go_wp2_with (first | ((with_reducible refine gate_dst (N := 2) rfl ?_); refine box_event ?hg (N := 2) ?hd (cs := #[.int .i64 0, .slice none 0 0]) (t := 26) ?hr ?_; (case hd => rfl); (case hg => rfl); (case hr => first | (go_simp; done) | (go_simp; rfl)); intro gb126 hg w44 hbox hb; replace HB := Aside0.mk (below_step (r7_ HB.out HI0.out) hb); have BK126 := Aside0.mk (hbox); have GW126 := Aside0.mk ((by rw [hg]; exact (keep_size (w := w) (g := g) (row := none) (r10_ HK.out)) : w.heap.size ≤ gb126)); have GE126 := Aside0.mk ((Nat.le_trans HW0.out (by rw [hg]; exact (keep_size (w := w) (g := g) (row := none) (r10_ HK.out)) : w.heap.size ≤ gb126) : w0.heap.size ≤ gb126)); replace HK := Aside0.mk (KeepBut.trans (r10_ HK.out) (KeepBut.of_below hb g none) (.inl rfl)); have NB0_126 := Aside0.mk ((by rw [hg]; exact Nat.ne_of_lt (IsS183.lt (show IsS183 w0 _ g s0_0 s0_1 s0_2 from r3_ HI0.out)) : g ≠ gb126)); have NB126_0 := Aside0.mk ((by rw [hg]; exact Nat.ne_of_gt (IsS183.lt (show IsS183 w0 _ g s0_0 s0_1 s0_2 from r3_ HI0.out)) : gb126 ≠ g)); replace HI0 := Aside0.mk (IsS183.below (r3_ HI0.out) hb); clear hb hbox hg) | ((with_reducible refine gate_callee (f := 109) rfl ?_); refine goesL_ (some 5) rfl rfl Try.func109 (by kernel_rfl) rfl #[.pointer (some ⟨g, 0, none⟩)] rfl ag_ ?_; (with_reducible refine (spec_l14Good.calls k g s0_0 s0_1 s0_2 t127 t128 t131 t132 w0 _ ?side1 ?side2 A2.out).mono ?_); (case side1 => exact r2_ HI0.out NB0_126.out); (case side2 => exact r5_ HB.out HI0.out GE126.out); rintro e w45 ⟨v129, rfl, ho0, hi, hb, hk⟩; refine ⟨_, rfl, ?_⟩; replace BK126 := Aside0.mk (KeepBut.blk hk (g' := gb126) (o := .cells #[.int .i64 0, .slice none 0 0] 26 (0, 0)) (r0_ BK126.out) NB126_0.out (by simp)); have HO130 := Aside0.mk (Kd.R_lower ho0 (keep_size (w := w) (g := g) (row := none) (r6_ HK.out GW126.out))); replace HK := Aside0.mk (KeepBut.trans (r6_ HK.out GW126.out) hk (.inl rfl)); replace HB := Aside0.mk (hb); replace HI0 := Aside0.mk (hi); (try clear hb); (try clear hb2); (try clear hk); (try clear hi); (try clear ho0)) | ((with_reducible refine gate_dst (N := 3) rfl ?_); refine box_event ?hg (N := 3) ?hd (cs := #[.int .i64 0, .slice none 0 0]) (t := 26) ?hr ?_; (case hd => rfl); (case hg => rfl); (case hr => first | (go_simp; done) | (go_simp; rfl)); intro gb133 hg w46 hbox hb; replace HO130 := Aside0.mk (Kd.R_below (rk_ HO130.out) hb); replace HB := Aside0.mk (below_step (r5_ HB.out HI0.out GE126.out) hb); have BK133 := Aside0.mk (hbox); have GW133 := Aside0.mk ((by rw [hg]; exact (keep_size (w := w) (g := g) (row := none) (r6_ HK.out GW126.out)) : w.heap.size ≤ gb133)); have GE133 := Aside0.mk ((Nat.le_trans HW0.out (by rw [hg]; exact (keep_size (w := w) (g := g) (row := none) (r6_ HK.out GW126.out)) : w.heap.size ≤ gb133) : w0.heap.size ≤ gb133)); replace HK := Aside0.mk (KeepBut.trans (r6_ HK.out GW126.out) (KeepBut.of_below hb g none) (.inl rfl)); have NB126_133 := Aside0.mk ((by rw [hg]; exact Nat.ne_of_lt (blk_lt (g := gb126) (o := .cells #[.int .i64 0, .slice none 0 0] 26 (0, 0)) (r0_ BK126.out)) : gb126 ≠ gb133)); have NB133_126 := Aside0.mk ((by rw [hg]; exact Nat.ne_of_gt (blk_lt (g := gb126) (o := .cells #[.int .i64 0, .slice none 0 0] 26 (0, 0)) (r0_ BK126.out)) : gb133 ≠ gb126)); replace BK126 := Aside0.mk (blk_below (g := gb126) (o := .cells #[.int .i64 0, .slice none 0 0] 26 (0, 0)) (r0_ BK126.out) hb); have NB0_133 := Aside0.mk ((by rw [hg]; exact Nat.ne_of_lt (IsS183.lt (show IsS183 w0 _ g s0_0 t131 t132 from r2_ HI0.out NB0_126.out)) : g ≠ gb133)); have NB133_0 := Aside0.mk ((by rw [hg]; exact Nat.ne_of_gt (IsS183.lt (show IsS183 w0 _ g s0_0 t131 t132 from r2_ HI0.out NB0_126.out)) : gb133 ≠ g)); replace HI0 := Aside0.mk (IsS183.below (r2_ HI0.out NB0_126.out) hb); clear hb hbox hg; have hnb47 := NB133_126.out; have hnc47 := NB126_133.out; have hnb48 := NB133_0.out; have hnc48 := NB0_133.out; have hcz49_0 : w46.cell? ⟨gb133, 0, none⟩ = some (.int .i64 0) := (blk_cell BK133.out 0).trans rfl; have hcz49_1 : w46.cell? ⟨gb133, 1, none⟩ = some (.slice none 0 0) := (blk_cell BK133.out 1).trans rfl; have hfz49_0 := blk_frozen BK133.out 0; have hfz49_1 := blk_frozen BK133.out 1; obtain ⟨Ao50, co50, eo50⟩ := Kd.R_slice HO130.out; subst eo50) | ((with_reducible refine gate_callee (f := 108) rfl ?_); refine goesL_ (some 7) rfl rfl Try.func108 (by kernel_rfl) rfl #[.pointer (some ⟨g, 0, none⟩), .int .i64 30] rfl ag_ ?_; (with_reducible refine (spec_l01Next.calls g s0_0 t131 t132 30 t134 t135 t136 w0 _ ?side1 ?side2 A3.out).mono ?_); (case side1 => exact r4_ HI0.out NB0_126.out NB0_133.out); (case side2 => repeat (first | (with_reducible first | exact HB.out | apply below_alloc | apply pw_below_drewN | apply below_drew1 | refine below_set ?_ (IsS183.ge HI0.out) | refine below_set ?_ GE126.out | refine below_set ?_ GE133.out) | exact HB.out)); rintro e w51 ⟨rfl, hi, hb, hk⟩; refine ⟨_, rfl, ?_⟩; replace BK126 := Aside0.mk (KeepBut.blk hk (g' := gb126) (o := .cells #[.int .i64 0, .slice none 0 0] 26 (0, 0)) (r12_ NB126_133.out BK126.out) NB126_0.out (by simp)); replace HO130 := Aside0.mk (Kd.R_mono (Kd.R_keep (IsS183.apart (show IsS183 w0 _ g s0_0 t131 t132 from r4_ HI0.out NB0_126.out NB0_133.out) (rk_ ((Kd.R_mono (Kd.R_far (p := ⟨gb133, 1, none⟩) (Kd.R_far (p := ⟨gb133, 0, none⟩) (Kd.R_types HO130.out BK133.out (by decide)) (fun _ hk => hk.2) (.int .i64 t127)) (fun _ hk => hk.2) (.slice Ao50 t128.length co50)) (fun _ h_ => h_.1)))) (by decide)) hk (fun _ h => h.2)) (fun _ h => h.1)); replace BK133 := Aside0.mk (KeepBut.blk hk (g' := gb133) (o := .cells #[.int .i64 t127, .slice Ao50 t128.length co50] 26 (0, 0)) (by (with_reducible repeat (first | refine blk_drewN ?_ _ | refine blk_drew ?_ | refine blk_alloc ?_ _)); refine blk_put (cs := #[.int .i64 t127, .slice none 0 0]) ?_ 1 _ rfl; (with_reducible repeat (first | refine blk_drewN ?_ _ | refine blk_drew ?_ | refine blk_alloc ?_ _)); refine blk_put (cs := #[.int .i64 0, .slice none 0 0]) ?_ 0 _ rfl; (with_reducible repeat (first | refine blk_drewN ?_ _ | refine blk_drew ?_ | refine blk_alloc ?_ _)); exact BK133.out) NB133_0.out (by simp)); replace HK := Aside0.mk (KeepBut.trans (r9_ HK.out GW126.out GW133.out) hk (.inl rfl)); replace HB := Aside0.mk (hb); replace HI0 := Aside0.mk (hi); (try clear hb); (try clear hb2); (try clear hk); (try clear hi)))
    go_loopg [] k (fun kq w' => ∃ (x1001_1 : Int) (x1002_1 : Int) (x134001_1 : List Int) (u134001 : Value), Aside0 (spec_l14Draw.l0 kq s0_0 x1001_1 x1002_1 t127 x134001_1 = some (r1, r2, r3, r4)) ∧ Aside0 (kq ≤ k) ∧ Aside0 (Kd.R (Kd.int .i64) 2 w' w.heap.size (fun _ => True) u134001 x134001_1) ∧ Aside0 (w'.heap[gb126]? = some (.cells #[.int .i64 0, (.slice none 0 0)] 26 (0, 0))) ∧ Aside0 (w'.heap[gb133]? = some (.cells #[.int .i64 t127, u134001] 26 (0, 0))) ∧ Aside0 (IsS183 w0 w' g s0_0 x1001_1 x1002_1) ∧ Aside0 (KeepBut w w' g none) ∧ Aside0 (Below w0.heap.size w0 w'))
    case atStart => exact ⟨(t135), (t136), (t128), (.slice Ao50 t128.length co50), H', ⟨Nat.le_refl _⟩, ⟨rk_ HO130.out⟩, ⟨r0_ BK126.out⟩, ⟨r0_ BK133.out⟩, ⟨r4_ HI0.out NB0_126.out NB0_133.out⟩, ⟨r9_ HK.out GW126.out GW133.out⟩, ⟨by repeat (first | (with_reducible first | exact HB.out | apply below_alloc | apply pw_below_drewN | apply below_drew1 | refine below_set ?_ (IsS183.ge HI0.out) | refine below_set ?_ GE126.out | refine below_set ?_ GE133.out) | exact HB.out)⟩⟩
    case round =>
     clear H'
     try clear c1
     try clear c2
     try clear p2
     try clear c4
     try clear c4b0
     try clear c4b1
     try clear c9
     try clear c10
     try clear c19
     try clear c21
     try clear c21b0
     try clear c21b1
     try clear c23
     try clear c27
     try clear c28
     try clear c41
     try clear c43
     try clear c43b0
     try clear c43b1
     try clear c47
     try clear c48
     try clear hcz11_0
     try clear hcz11_1
     try clear hcz18_0
     try clear hcz18_1
     try clear hcz20_0
     try clear hcz20_1
     try clear hcz29_0
     try clear hcz29_1
     try clear hcz40_0
     try clear hcz40_1
     try clear hcz42_0
     try clear hcz42_1
     try clear hcz49_0
     try clear hcz49_1
     try clear hfz11_0
     try clear hfz11_1
     try clear hfz18_0
     try clear hfz18_1
     try clear hfz20_0
     try clear hfz20_1
     try clear hfz29_0
     try clear hfz29_1
     try clear hfz40_0
     try clear hfz40_1
     try clear hfz42_0
     try clear hfz42_1
     try clear hfz49_0
     try clear hfz49_1
     obtain ⟨x1001_1, x1002_1, x134001_1, u134001, HA, HK1, HO_134001, BK126, BK133, HI0, HK, HB⟩ := hrel
     cases gk with
     | zero => exact absurd HA.out (by simp [spec_l14Draw.l0])
     | succ k1 =>
      have H := HA.out
      clear HA
      simp only [spec_l14Draw.l0] at H
      replace H := Option.bind_eq_some_iff.mp H
      obtain ⟨⟨t152, t153, t154⟩, A520, H⟩ := H
      replace H : (if (x134001_1.length : Int) < (wrap64 (10 + t152)) then (if x134001_1.length < 17592186044416 then (spec_l14Draw.l0 k1 s0_0 t153 t154 t127 (x134001_1 ++ [1700])) else (none)) else (some (t127, x134001_1, t153, t154))) = some (r1, r2, r3, r4) := H
      have A52 := Aside0.mk A520
      clear A520
      by_cases c53 : (x134001_1.length : Int) < (wrap64 (10 + t152))
      ·rw [if_pos c53] at H
       have c53b0 : decide ((x134001_1.length : Int) < (wrap64 (10 + t152))) = true := decide_eq_true c53
       clear c53
       by_cases c54 : x134001_1.length < 17592186044416
       case neg =>
        rw [if_neg c54] at H
        exact absurd H (by simp)
       rw [if_pos c54] at H
       have LMc54 := Aside0.mk c54
       clear c54
       obtain ⟨y155, hy155⟩ : ∃ y_ : List Int, y_ = (x134001_1 ++ [1700]) := ⟨_, rfl⟩
       replace H : (spec_l14Draw.l0 k1 s0_0 t153 t154 t127 y155) = some (r1, r2, r3, r4) := by first | (rw [hy155]; with_reducible exact H) | (have H2_ := (Option.bind_some _ _).symm.trans H; rw [hy155]; with_reducible exact H2_) | (have H2_ := (Option.bind_some _ _).symm.trans H; with_reducible exact H2_) | with_reducible exact H | (rw [hy155]; exact H) | exact H
       have Ny155 := Aside0.mk hy155
       clear hy155
       have H' := Aside0.mk H
       clear H
       try go_wp2
       replace HO_134001 := Aside0.mk (Kd.R_drew HO_134001.out)
       replace BK126 := Aside0.mk (blk_drew BK126.out)
       replace BK133 := Aside0.mk (blk_drew BK133.out)
       replace HI0 := Aside0.mk (IsS183.drew HI0.out)
       replace HK := Aside0.mk (keep_drew HK.out)
       replace HB := Aside0.mk (below_drew1 HB.out)
       obtain ⟨Ao56, co56, eo56⟩ := Kd.R_slice HO_134001.out
       (first | subst eo56 | (injection eo56 with f1_ f2_ f3_; have f4_ := f1_.symm; have f5_ := f3_.symm; clear f1_ f2_ f3_; subst f4_; subst f5_))
       refine start_ (n := 7) (S := fun w' => w'.cell? ⟨gb133, 0, none⟩ = some (.int .i64 t127) ∧ w'.cell? ⟨gb133, 1, none⟩ = some (.slice Ao56 x134001_1.length co56)) (ds := []) #[f_,f_,f_,f_,f_,f_,f_] (by kernel_rfl) rfl rfl ⟨(blk_cell BK133.out 0).trans rfl, (blk_cell BK133.out 1).trans rfl⟩ (fun hHeld => ?_)
       generalize wr.drew = w55 at HO_134001 BK126 BK133 HI0 HK HB hHeld ⊢
       refine pure_ (i := 0) (N := some 26) (v := ?_) (a' := ?_) #[t_,f_,f_,f_,f_,f_,f_] rfl rfl (by kernel_rfl) (fun _ _ _ h => h) (Or.inl ⟨by rfl, ?_⟩) ?_ ?_
       rotate_left
       ·intro w'
        go_simp
        with_reducible rfl
       rotate_left
       ·simp only [pz_]
        rfl
       refine pure_ (i := 3) (N := some 29) (v := ?_) (a' := ?_) #[t_,f_,f_,t_,f_,f_,f_] rfl rfl (by kernel_rfl) (fun _ _ _ h => h) (Or.inl ⟨by rfl, ?_⟩) ?_ ?_
       rotate_left
       ·intro w'
        go_simp
        with_reducible rfl
       rotate_left
       ·simp only [pz_]
        rfl
       refine take_ (i := 1) (N := some 27) (v := ?_) (a' := ?_) #[t_,t_,f_,t_,f_,f_,f_] rfl rfl (by kernel_rfl) (fun _ _ _ h => h) (Or.inl ⟨by rfl, ?_⟩) hHeld ?_ ?_
       rotate_left
       ·rintro w' ⟨s0, s1⟩
        go_simp
        with_reducible rfl
       rotate_left
       ·simp only [pz_]
        rfl
       refine pure_ (i := 2) (N := some 28) (v := ?_) (a' := ?_) #[t_,t_,t_,t_,f_,f_,f_] rfl rfl (by kernel_rfl) (fun _ _ _ h => h) (Or.inl ⟨by rfl, ?_⟩) ?_ ?_
       rotate_left
       ·intro w'
        go_simp
        with_reducible rfl
       rotate_left
       ·simp only [pz_]
        rfl
       refine one_ (i := 4) (N := some 30) #[t_,t_,t_,t_,t_,f_,f_] rfl rfl (by kernel_rfl) (by decide) (fun K hK => ?_)
       refine goes_ Try.func108 (by kernel_rfl) rfl #[.pointer (some ⟨g, 0, none⟩), .int .i64 2] (by rfl) rfl rfl ag_ ?_
       with_reducible refine (spec_l01Next.calls g s0_0 x1001_1 x1002_1 2 t152 t153 t154 w0 _ ?side1 ?side2 A52.out).mono ?_
       (case side1 => exact r4_ HI0.out NB0_126.out NB0_133.out)
       (case side2 => repeat (first | (with_reducible first | exact HB.out | apply below_alloc | apply pw_below_drewN | apply below_drew1 | refine below_set ?_ (IsS183.ge HI0.out) | refine below_set ?_ GE126.out | refine below_set ?_ GE133.out) | exact HB.out))
       rintro e w57 ⟨rfl, hi, hb, hk⟩
       refine ⟨_, rfl, ?_⟩
       replace HO_134001 := Aside0.mk (Kd.R_mono (Kd.R_keep (IsS183.apart (show IsS183 w0 _ g s0_0 x1001_1 x1002_1 from r4_ HI0.out NB0_126.out NB0_133.out) (rk_ HO_134001.out) (by decide)) hk (fun _ h => h.2)) (fun _ h => h.1))
       replace BK126 := Aside0.mk (KeepBut.blk hk (g' := gb126) (o := .cells #[.int .i64 0, .slice none 0 0] 26 (0, 0)) (r0_ BK126.out) NB126_0.out (by simp))
       replace BK133 := Aside0.mk (KeepBut.blk hk (g' := gb133) (o := .cells #[.int .i64 t127, .slice Ao56 x134001_1.length co56] 26 (0, 0)) (r0_ BK133.out) NB133_0.out (by simp))
       replace HK := Aside0.mk (KeepBut.trans (r9_ HK.out GW126.out GW133.out) hk (.inl rfl))
       replace HB := Aside0.mk (hb)
       replace HI0 := Aside0.mk (hi)
       (try clear hb)
       (try clear hb2)
       (try clear hk)
       (try clear hi)
       refine hK.out _ _ ⟨(blk_cell BK133.out 0).trans rfl, (blk_cell BK133.out 1).trans rfl⟩ (fun hHeld => ?_)
       clear hK K
       refine norm_ (a' := ?_) ?_ ?_
       rotate_left
       ·show Act.put _ (some 30) _ = _
        simp only [pz_]
        rfl
       refine pure_ (i := 5) (N := some 31) (v := ?_) (a' := ?_) #[t_,t_,t_,t_,t_,t_,f_] rfl rfl (by kernel_rfl) (fun _ _ _ h => h) (Or.inl ⟨by rfl, ?_⟩) ?_ ?_
       rotate_left
       ·intro w'
        go_simp
        with_reducible rfl
       rotate_left
       ·simp only [pz_]
        rfl
       refine pure_ (i := 6) (N := some 32) (v := ?_) (a' := ?_) #[t_,t_,t_,t_,t_,t_,t_] rfl rfl (by kernel_rfl) (fun _ _ _ h => h) (Or.inl ⟨by rfl, ?_⟩) ?_ ?_
       rotate_left
       ·intro w'
        go_simp
        with_reducible rfl
       rotate_left
       ·simp only [pz_]
        rfl
       refine done_ (by kernel_rfl) ?_
       have hnb58 := NB133_126.out
       have hnc58 := NB126_133.out
       have hnb59 := NB133_0.out
       have hnc59 := NB0_133.out
       have hcz60_0 : w57.cell? ⟨gb133, 0, none⟩ = some (.int .i64 t127) := (blk_cell BK133.out 0).trans rfl
       have hcz60_1 : w57.cell? ⟨gb133, 1, none⟩ = some (.slice Ao56 x134001_1.length co56) := (blk_cell BK133.out 1).trans rfl
       have hfz60_0 := blk_frozen BK133.out 0
       have hfz60_1 := blk_frozen BK133.out 1
       try go_wp2_with (first | ((with_reducible refine gate_builtin (b := .append) (xs := #[.tmp 34, .tmp 35]) rfl ?_); at_builtin; refine Kd.R_append (Kd.int .i64) w.heap.size rfl (.tmp 34) (.tmp 35) 24 2 (.int .i64 0) 8 rfl Try.underlying24 info2 rfl (by decide) (by omega) (.slice Ao56 x134001_1.length co56) x134001_1 1700 [.int .i64 1700] (fun _ => True) (fun _ => False) rfl rfl ?aP (fun _ hk => hk.elim) ?aF ?aO (Below.refl _ _) ?aS ?aL ?_; (case aP => exact rfl); (case aF => exact (fun _ _ => trivial)); (case aO => exact (rk_ HO_134001.out)); (case aS => exact (keep_size (w := w) (g := g) (row := none) (r9_ HK.out GW126.out GW133.out))); (case aL => have := LMc54.out; omega); intro v156 w61 ho hb hg hat; rw [← Ny155.out] at ho; have n0_ := Aside0.mk (blk_grown (g := gb126) (o := .cells #[.int .i64 0, .slice none 0 0] 26 (0, 0)) (r0_ BK126.out) hg (Kd.R_ne HO_134001.out BK126.out (by decide))); have n1_ := Aside0.mk (blk_grown (g := gb133) (o := .cells #[.int .i64 t127, .slice Ao56 x134001_1.length co56] 26 (0, 0)) (r0_ BK133.out) hg (Kd.R_ne HO_134001.out BK133.out (by decide))); have n2_ := Aside0.mk (IsS183.grown (r4_ HI0.out NB0_126.out NB0_133.out) hg (IsS183.own_ne HI0.out HO_134001.out (by decide))); have n3_ := Aside0.mk (below_weaken (by repeat (first | (with_reducible first | exact HB.out | apply below_alloc | apply pw_below_drewN | apply below_drew1 | refine below_set ?_ (IsS183.ge HI0.out) | refine below_set ?_ GE126.out | refine below_set ?_ GE133.out) | exact HB.out)) HL.out hb); have n4_ := Aside0.mk (KeepBut.trans (r9_ HK.out GW126.out GW133.out) (KeepBut.of_grown hg g) (Kd.R_base2 HO_134001.out)); have n5_ := Aside0.mk (ho); clear BK126; clear BK133; clear HI0; clear HB; clear HK; clear HO_134001; have BK126 := n0_; have BK133 := n1_; have HI0 := n2_; have HB := n3_; have HK := n4_; have HO157 := n5_; clear n0_ n1_ n2_ n3_ n4_ n5_; clear ho hb hg hat; obtain ⟨Ao62, co62, eo62⟩ := Kd.R_slice HO157.out; subst eo62; have hcz63_0 : w61.cell? ⟨gb133, 0, none⟩ = some (.int .i64 t127) := (blk_cell BK133.out 0).trans rfl; have hcz63_1 : w61.cell? ⟨gb133, 1, none⟩ = some (.slice Ao56 x134001_1.length co56) := (blk_cell BK133.out 1).trans rfl; have hfz63_0 := blk_frozen BK133.out 0; have hfz63_1 := blk_frozen BK133.out 1))
       go_roundg k1
       case measure => have := HK1.out; omega
       case rel => exact ⟨(t153), (t154), (y155), (.slice Ao62 y155.length co62), H', ⟨by have := HK1.out; omega⟩, ⟨rk_ (Kd.R_mono (Kd.R_far (p := ⟨gb133, 1, none⟩) (Kd.R_types HO157.out BK133.out (by decide)) (fun _ hk => hk.2) (.slice Ao62 y155.length co62)) (fun _ hk => trivial))⟩, ⟨r18_ NB126_133.out BK126.out⟩, ⟨by (with_reducible repeat (first | refine blk_drewN ?_ _ | refine blk_drew ?_ | refine blk_alloc ?_ _)); refine blk_put (cs := #[.int .i64 t127, .slice Ao56 x134001_1.length co56]) ?_ 1 _ rfl; (with_reducible repeat (first | refine blk_drewN ?_ _ | refine blk_drew ?_ | refine blk_alloc ?_ _)); exact BK133.out⟩, ⟨r4_ HI0.out NB0_126.out NB0_133.out⟩, ⟨r9_ HK.out GW126.out GW133.out⟩, ⟨by repeat (first | (with_reducible first | exact HB.out | apply below_alloc | apply pw_below_drewN | apply below_drew1 | refine below_set ?_ (IsS183.ge HI0.out) | refine below_set ?_ GE126.out | refine below_set ?_ GE133.out) | exact HB.out)⟩⟩
      ·rw [if_neg c53] at H
       have c53b0 : decide ((x134001_1.length : Int) < (wrap64 (10 + t152))) = false := decide_eq_false c53
       clear c53
       simp only [Option.some.injEq, Prod.mk.injEq] at H
       obtain ⟨rfl, rfl, rfl, rfl⟩ := H
       try go_wp2
       replace HO_134001 := Aside0.mk (Kd.R_drew HO_134001.out)
       replace BK126 := Aside0.mk (blk_drew BK126.out)
       replace BK133 := Aside0.mk (blk_drew BK133.out)
       replace HI0 := Aside0.mk (IsS183.drew HI0.out)
       replace HK := Aside0.mk (keep_drew HK.out)
       replace HB := Aside0.mk (below_drew1 HB.out)
       obtain ⟨Ao65, co65, eo65⟩ := Kd.R_slice HO_134001.out
       (first | subst eo65 | (injection eo65 with f1_ f2_ f3_; have f4_ := f1_.symm; have f5_ := f3_.symm; clear f1_ f2_ f3_; subst f4_; subst f5_))
       refine start_ (n := 7) (S := fun w' => w'.cell? ⟨gb133, 0, none⟩ = some (.int .i64 t127) ∧ w'.cell? ⟨gb133, 1, none⟩ = some (.slice Ao65 x134001_1.length co65)) (ds := []) #[f_,f_,f_,f_,f_,f_,f_] (by kernel_rfl) rfl rfl ⟨(blk_cell BK133.out 0).trans rfl, (blk_cell BK133.out 1).trans rfl⟩ (fun hHeld => ?_)
       generalize wr.drew = w64 at HO_134001 BK126 BK133 HI0 HK HB hHeld ⊢
       refine pure_ (i := 0) (N := some 26) (v := ?_) (a' := ?_) #[t_,f_,f_,f_,f_,f_,f_] rfl rfl (by kernel_rfl) (fun _ _ _ h => h) (Or.inl ⟨by rfl, ?_⟩) ?_ ?_
       rotate_left
       ·intro w'
        go_simp
        with_reducible rfl
       rotate_left
       ·simp only [pz_]
        rfl
       refine pure_ (i := 3) (N := some 29) (v := ?_) (a' := ?_) #[t_,f_,f_,t_,f_,f_,f_] rfl rfl (by kernel_rfl) (fun _ _ _ h => h) (Or.inl ⟨by rfl, ?_⟩) ?_ ?_
       rotate_left
       ·intro w'
        go_simp
        with_reducible rfl
       rotate_left
       ·simp only [pz_]
        rfl
       refine take_ (i := 1) (N := some 27) (v := ?_) (a' := ?_) #[t_,t_,f_,t_,f_,f_,f_] rfl rfl (by kernel_rfl) (fun _ _ _ h => h) (Or.inl ⟨by rfl, ?_⟩) hHeld ?_ ?_
       rotate_left
       ·rintro w' ⟨s0, s1⟩
        go_simp
        with_reducible rfl
       rotate_left
       ·simp only [pz_]
        rfl
       refine pure_ (i := 2) (N := some 28) (v := ?_) (a' := ?_) #[t_,t_,t_,t_,f_,f_,f_] rfl rfl (by kernel_rfl) (fun _ _ _ h => h) (Or.inl ⟨by rfl, ?_⟩) ?_ ?_
       rotate_left
       ·intro w'
        go_simp
        with_reducible rfl
       rotate_left
       ·simp only [pz_]
        rfl
       refine one_ (i := 4) (N := some 30) #[t_,t_,t_,t_,t_,f_,f_] rfl rfl (by kernel_rfl) (by decide) (fun K hK => ?_)
       refine goes_ Try.func108 (by kernel_rfl) rfl #[.pointer (some ⟨g, 0, none⟩), .int .i64 2] (by rfl) rfl rfl ag_ ?_
       with_reducible refine (spec_l01Next.calls g s0_0 x1001_1 x1002_1 2 t152 t153 t154 w0 _ ?side1 ?side2 A52.out).mono ?_
       (case side1 => exact r4_ HI0.out NB0_126.out NB0_133.out)
       (case side2 => repeat (first | (with_reducible first | exact HB.out | apply below_alloc | apply pw_below_drewN | apply below_drew1 | refine below_set ?_ (IsS183.ge HI0.out) | refine below_set ?_ GE126.out | refine below_set ?_ GE133.out) | exact HB.out))
       rintro e w66 ⟨rfl, hi, hb, hk⟩
       refine ⟨_, rfl, ?_⟩
       replace HO_134001 := Aside0.mk (Kd.R_mono (Kd.R_keep (IsS183.apart (show IsS183 w0 _ g s0_0 x1001_1 x1002_1 from r4_ HI0.out NB0_126.out NB0_133.out) (rk_ HO_134001.out) (by decide)) hk (fun _ h => h.2)) (fun _ h => h.1))
       replace BK126 := Aside0.mk (KeepBut.blk hk (g' := gb126) (o := .cells #[.int .i64 0, .slice none 0 0] 26 (0, 0)) (r0_ BK126.out) NB126_0.out (by simp))
       replace BK133 := Aside0.mk (KeepBut.blk hk (g' := gb133) (o := .cells #[.int .i64 t127, .slice Ao65 x134001_1.length co65] 26 (0, 0)) (r0_ BK133.out) NB133_0.out (by simp))
       replace HK := Aside0.mk (KeepBut.trans (r9_ HK.out GW126.out GW133.out) hk (.inl rfl))
       replace HB := Aside0.mk (hb)
       replace HI0 := Aside0.mk (hi)
       (try clear hb)
       (try clear hb2)
       (try clear hk)
       (try clear hi)
       refine hK.out _ _ ⟨(blk_cell BK133.out 0).trans rfl, (blk_cell BK133.out 1).trans rfl⟩ (fun hHeld => ?_)
       clear hK K
       refine norm_ (a' := ?_) ?_ ?_
       rotate_left
       ·show Act.put _ (some 30) _ = _
        simp only [pz_]
        rfl
       refine pure_ (i := 5) (N := some 31) (v := ?_) (a' := ?_) #[t_,t_,t_,t_,t_,t_,f_] rfl rfl (by kernel_rfl) (fun _ _ _ h => h) (Or.inl ⟨by rfl, ?_⟩) ?_ ?_
       rotate_left
       ·intro w'
        go_simp
        with_reducible rfl
       rotate_left
       ·simp only [pz_]
        rfl
       refine pure_ (i := 6) (N := some 32) (v := ?_) (a' := ?_) #[t_,t_,t_,t_,t_,t_,t_] rfl rfl (by kernel_rfl) (fun _ _ _ h => h) (Or.inl ⟨by rfl, ?_⟩) ?_ ?_
       rotate_left
       ·intro w'
        go_simp
        with_reducible rfl
       rotate_left
       ·simp only [pz_]
        rfl
       refine done_ (by kernel_rfl) ?_
       have hnb67 := NB133_126.out
       have hnc67 := NB126_133.out
       have hnb68 := NB133_0.out
       have hnc68 := NB0_133.out
       have hcz69_0 : w66.cell? ⟨gb133, 0, none⟩ = some (.int .i64 t127) := (blk_cell BK133.out 0).trans rfl
       have hcz69_1 : w66.cell? ⟨gb133, 1, none⟩ = some (.slice Ao65 x134001_1.length co65) := (blk_cell BK133.out 1).trans rfl
       have hfz69_0 := blk_frozen BK133.out 0
       have hfz69_1 := blk_frozen BK133.out 1
       have hnb70 := NB126_0.out
       have hnc70 := NB0_126.out
       have hcz71_0 : w66.cell? ⟨gb126, 0, none⟩ = some (.int .i64 0) := (blk_cell BK126.out 0).trans rfl
       have hcz71_1 : w66.cell? ⟨gb126, 1, none⟩ = some (.slice none 0 0) := (blk_cell BK126.out 1).trans rfl
       have hfz71_0 := blk_frozen BK126.out 0
       have hfz71_1 := blk_frozen BK126.out 1
       try go_wp2
       refine bodyPost_ret (results_cell_row rfl _ _ gb126 26 #[.int .i64 t127, .slice Ao65 x134001_1.length co65] (0, 0) _ rfl (by (with_reducible repeat (first | refine blk_drewN ?_ _ | refine blk_drew ?_ | refine blk_alloc ?_ _)); refine blk_put (cs := #[.int .i64 t127, .slice none 0 0]) ?_ 1 _ rfl; (with_reducible repeat (first | refine blk_drewN ?_ _ | refine blk_drew ?_ | refine blk_alloc ?_ _)); refine blk_put (cs := #[.int .i64 0, .slice none 0 0]) ?_ 0 _ rfl; (with_reducible repeat (first | refine blk_drewN ?_ _ | refine blk_drew ?_ | refine blk_alloc ?_ _)); exact BK126.out) Try.underlying26 rfl (by kernel_rfl)) rfl ?_
       exact ⟨_, by first | rfl | (simp [errW_none, errW_some] <;> rfl) | (simp [*, errW_none, errW_some] <;> rfl), rk_ (Kd.R_mono (Kd.R_far (p := ⟨gb126, 1, none⟩) (Kd.R_far (p := ⟨gb126, 0, none⟩) (Kd.R_types HO_134001.out BK126.out (by decide)) (fun _ hk => hk.2) (.int .i64 t127)) (fun _ hk => hk.2) (.slice Ao65 x134001_1.length co65)) (fun _ hk => trivial)), r4_ HI0.out NB0_126.out NB0_133.out, by repeat (first | (with_reducible first | exact HB.out | apply below_alloc | apply pw_below_drewN | apply below_drew1 | refine below_set ?_ (IsS183.ge HI0.out) | refine below_set ?_ GE126.out | refine below_set ?_ GE133.out) | exact HB.out), r9_ HK.out GW126.out GW133.out⟩
   ·rw [if_neg c43] at H
    have c43b0 : (t134 == 2) = false := beq_eq_false_iff_ne.mpr c43
    have c43b1 : (t134 != 2) = true := bne_iff_ne.mpr c43
    by_cases c72 : t134 = 3
    ·rw [if_pos c72] at H
     have c72b0 : (t134 == 3) = true := beq_iff_eq.mpr c72
     have c72b1 : (t134 != 3) = false := bne_eq_false_iff_eq.mpr c72
     clear c72
     obtain ⟨y158, hy158⟩ : ∃ y_ : List Int, y_ = (([] : List Int)) := ⟨_, rfl⟩
     replace H : (some (t127, y158, t135, t136)) = some (r1, r2, r3, r4) := by first | (rw [hy158]; with_reducible exact H) | (have H2_ := (Option.bind_some _ _).symm.trans H; rw [hy158]; with_reducible exact H2_) | (have H2_ := (Option.bind_some _ _).symm.trans H; with_reducible exact H2_) | with_reducible exact H | (rw [hy158]; exact H) | exact H
     have Ny158 := Aside0.mk hy158
     clear hy158
     simp only [Option.some.injEq, Prod.mk.injEq] at H
     obtain ⟨rfl, rfl, rfl, rfl⟩ := H
     go_enter Try.func97, Try.ntmps97
     go_wp2_with (first | ((with_reducible refine gate_dst (N := 2) rfl ?_); refine box_event ?hg (N := 2) ?hd (cs := #[.int .i64 0, .slice none 0 0]) (t := 26) ?hr ?_; (case hd => rfl); (case hg => rfl); (case hr => first | (go_simp; done) | (go_simp; rfl)); intro gb126 hg w73 hbox hb; replace HB := Aside0.mk (below_step (r7_ HB.out HI0.out) hb); have BK126 := Aside0.mk (hbox); have GW126 := Aside0.mk ((by rw [hg]; exact (keep_size (w := w) (g := g) (row := none) (r10_ HK.out)) : w.heap.size ≤ gb126)); have GE126 := Aside0.mk ((Nat.le_trans HW0.out (by rw [hg]; exact (keep_size (w := w) (g := g) (row := none) (r10_ HK.out)) : w.heap.size ≤ gb126) : w0.heap.size ≤ gb126)); replace HK := Aside0.mk (KeepBut.trans (r10_ HK.out) (KeepBut.of_below hb g none) (.inl rfl)); have NB0_126 := Aside0.mk ((by rw [hg]; exact Nat.ne_of_lt (IsS183.lt (show IsS183 w0 _ g s0_0 s0_1 s0_2 from r3_ HI0.out)) : g ≠ gb126)); have NB126_0 := Aside0.mk ((by rw [hg]; exact Nat.ne_of_gt (IsS183.lt (show IsS183 w0 _ g s0_0 s0_1 s0_2 from r3_ HI0.out)) : gb126 ≠ g)); replace HI0 := Aside0.mk (IsS183.below (r3_ HI0.out) hb); clear hb hbox hg) | ((with_reducible refine gate_callee (f := 109) rfl ?_); refine goesL_ (some 5) rfl rfl Try.func109 (by kernel_rfl) rfl #[.pointer (some ⟨g, 0, none⟩)] rfl ag_ ?_; (with_reducible refine (spec_l14Good.calls k g s0_0 s0_1 s0_2 t127 t128 t131 t132 w0 _ ?side1 ?side2 A2.out).mono ?_); (case side1 => exact r2_ HI0.out NB0_126.out); (case side2 => exact r5_ HB.out HI0.out GE126.out); rintro e w74 ⟨v129, rfl, ho0, hi, hb, hk⟩; refine ⟨_, rfl, ?_⟩; replace BK126 := Aside0.mk (KeepBut.blk hk (g' := gb126) (o := .cells #[.int .i64 0, .slice none 0 0] 26 (0, 0)) (r0_ BK126.out) NB126_0.out (by simp)); have HO130 := Aside0.mk (Kd.R_lower ho0 (keep_size (w := w) (g := g) (row := none) (r6_ HK.out GW126.out))); replace HK := Aside0.mk (KeepBut.trans (r6_ HK.out GW126.out) hk (.inl rfl)); replace HB := Aside0.mk (hb); replace HI0 := Aside0.mk (hi); (try clear hb); (try clear hb2); (try clear hk); (try clear hi); (try clear ho0)) | ((with_reducible refine gate_dst (N := 3) rfl ?_); refine box_event ?hg (N := 3) ?hd (cs := #[.int .i64 0, .slice none 0 0]) (t := 26) ?hr ?_; (case hd => rfl); (case hg => rfl); (case hr => first | (go_simp; done) | (go_simp; rfl)); intro gb133 hg w75 hbox hb; replace HO130 := Aside0.mk (Kd.R_below (rk_ HO130.out) hb); replace HB := Aside0.mk (below_step (r5_ HB.out HI0.out GE126.out) hb); have BK133 := Aside0.mk (hbox); have GW133 := Aside0.mk ((by rw [hg]; exact (keep_size (w := w) (g := g) (row := none) (r6_ HK.out GW126.out)) : w.heap.size ≤ gb133)); have GE133 := Aside0.mk ((Nat.le_trans HW0.out (by rw [hg]; exact (keep_size (w := w) (g := g) (row := none) (r6_ HK.out GW126.out)) : w.heap.size ≤ gb133) : w0.heap.size ≤ gb133)); replace HK := Aside0.mk (KeepBut.trans (r6_ HK.out GW126.out) (KeepBut.of_below hb g none) (.inl rfl)); have NB126_133 := Aside0.mk ((by rw [hg]; exact Nat.ne_of_lt (blk_lt (g := gb126) (o := .cells #[.int .i64 0, .slice none 0 0] 26 (0, 0)) (r0_ BK126.out)) : gb126 ≠ gb133)); have NB133_126 := Aside0.mk ((by rw [hg]; exact Nat.ne_of_gt (blk_lt (g := gb126) (o := .cells #[.int .i64 0, .slice none 0 0] 26 (0, 0)) (r0_ BK126.out)) : gb133 ≠ gb126)); replace BK126 := Aside0.mk (blk_below (g := gb126) (o := .cells #[.int .i64 0, .slice none 0 0] 26 (0, 0)) (r0_ BK126.out) hb); have NB0_133 := Aside0.mk ((by rw [hg]; exact Nat.ne_of_lt (IsS183.lt (show IsS183 w0 _ g s0_0 t131 t132 from r2_ HI0.out NB0_126.out)) : g ≠ gb133)); have NB133_0 := Aside0.mk ((by rw [hg]; exact Nat.ne_of_gt (IsS183.lt (show IsS183 w0 _ g s0_0 t131 t132 from r2_ HI0.out NB0_126.out)) : gb133 ≠ g)); replace HI0 := Aside0.mk (IsS183.below (r2_ HI0.out NB0_126.out) hb); clear hb hbox hg; have hnb76 := NB133_126.out; have hnc76 := NB126_133.out; have hnb77 := NB133_0.out; have hnc77 := NB0_133.out; have hcz78_0 : w75.cell? ⟨gb133, 0, none⟩ = some (.int .i64 0) := (blk_cell BK133.out 0).trans rfl; have hcz78_1 : w75.cell? ⟨gb133, 1, none⟩ = some (.slice none 0 0) := (blk_cell BK133.out 1).trans rfl; have hfz78_0 := blk_frozen BK133.out 0; have hfz78_1 := blk_frozen BK133.out 1; obtain ⟨Ao79, co79, eo79⟩ := Kd.R_slice HO130.out; subst eo79) | ((with_reducible refine gate_callee (f := 108) rfl ?_); refine goesL_ (some 7) rfl rfl Try.func108 (by kernel_rfl) rfl #[.pointer (some ⟨g, 0, none⟩), .int .i64 30] rfl ag_ ?_; (with_reducible refine (spec_l01Next.calls g s0_0 t131 t132 30 t134 t135 t136 w0 _ ?side1 ?side2 A3.out).mono ?_); (case side1 => exact r4_ HI0.out NB0_126.out NB0_133.out); (case side2 => repeat (first | (with_reducible first | exact HB.out | apply below_alloc | apply pw_below_drewN | apply below_drew1 | refine below_set ?_ (IsS183.ge HI0.out) | refine below_set ?_ GE126.out | refine below_set ?_ GE133.out) | exact HB.out)); rintro e w80 ⟨rfl, hi, hb, hk⟩; refine ⟨_, rfl, ?_⟩; replace BK126 := Aside0.mk (KeepBut.blk hk (g' := gb126) (o := .cells #[.int .i64 0, .slice none 0 0] 26 (0, 0)) (r12_ NB126_133.out BK126.out) NB126_0.out (by simp)); replace HO130 := Aside0.mk (Kd.R_mono (Kd.R_keep (IsS183.apart (show IsS183 w0 _ g s0_0 t131 t132 from r4_ HI0.out NB0_126.out NB0_133.out) (rk_ ((Kd.R_mono (Kd.R_far (p := ⟨gb133, 1, none⟩) (Kd.R_far (p := ⟨gb133, 0, none⟩) (Kd.R_types HO130.out BK133.out (by decide)) (fun _ hk => hk.2) (.int .i64 t127)) (fun _ hk => hk.2) (.slice Ao79 t128.length co79)) (fun _ h_ => h_.1)))) (by decide)) hk (fun _ h => h.2)) (fun _ h => h.1)); replace BK133 := Aside0.mk (KeepBut.blk hk (g' := gb133) (o := .cells #[.int .i64 t127, .slice Ao79 t128.length co79] 26 (0, 0)) (by (with_reducible repeat (first | refine blk_drewN ?_ _ | refine blk_drew ?_ | refine blk_alloc ?_ _)); refine blk_put (cs := #[.int .i64 t127, .slice none 0 0]) ?_ 1 _ rfl; (with_reducible repeat (first | refine blk_drewN ?_ _ | refine blk_drew ?_ | refine blk_alloc ?_ _)); refine blk_put (cs := #[.int .i64 0, .slice none 0 0]) ?_ 0 _ rfl; (with_reducible repeat (first | refine blk_drewN ?_ _ | refine blk_drew ?_ | refine blk_alloc ?_ _)); exact BK133.out) NB133_0.out (by simp)); replace HK := Aside0.mk (KeepBut.trans (r9_ HK.out GW126.out GW133.out) hk (.inl rfl)); replace HB := Aside0.mk (hb); replace HI0 := Aside0.mk (hi); (try clear hb); (try clear hb2); (try clear hk); (try clear hi)) | ((with_reducible refine gate_dst (N := 40) rfl ?_); refine Kd.R_lit (Kd.int .i64) _ 2 ?hg (N := 40) ?hd (xs := ([] : List Int)) (inner := []) (ok := fun _ => True) (okp := fun _ => True) ?hr ?hp (fun _ hk => hk) trivial (Below.refl _ _) (Nat.le_refl _) (by simp) ?_; (case hd => rfl); (case hg => rfl); (case hr => first | (go_simp; done) | (go_simp; rfl)); (case hp => exact (Reps.none _ _)); intro v159 w81 ho82 hb hg_ hnew_; clear hg_ hnew_; (first | rw [← Ny158.out] at ho82 | (simp only [Int.reduceToNat] at ho82; rw [← Ny158.out] at ho82)); have HO160 := Aside0.mk (Kd.R_lower (Kd.R_new' ho82 (Kd.R_lt (rk_ HO130.out))) (keep_size (w := w) (g := g) (row := none) (r9_ HK.out GW126.out GW133.out))); replace HO130 := Aside0.mk (Kd.R_elder' (rk_ HO130.out) (Kd.R_base ho82) hb); replace BK126 := Aside0.mk (blk_below (g := gb126) (o := .cells #[.int .i64 0, .slice none 0 0] 26 (0, 0)) (r0_ BK126.out) hb); replace BK133 := Aside0.mk (blk_below (g := gb133) (o := .cells #[.int .i64 t127, .slice Ao79 t128.length co79] 26 (0, 0)) (r0_ BK133.out) hb); replace HK := Aside0.mk (KeepBut.trans (r9_ HK.out GW126.out GW133.out) (KeepBut.of_below hb g none) (.inl rfl)); replace HB := Aside0.mk (below_step (by repeat (first | (with_reducible first | exact HB.out | apply below_alloc | apply pw_below_drewN | apply below_drew1 | refine below_set ?_ (IsS183.ge HI0.out) | refine below_set ?_ GE126.out | refine below_set ?_ GE133.out) | exact HB.out)) hb); replace HI0 := Aside0.mk (IsS183.below (r4_ HI0.out NB0_126.out NB0_133.out) hb); clear hb ho82; obtain ⟨Ao83, co83, eo83⟩ := Kd.R_slice HO160.out; subst eo83; have hcz84_0 : w81.cell? ⟨gb133, 0, none⟩ = some (.int .i64 t127) := (blk_cell BK133.out 0).trans rfl; have hcz84_1 : w81.cell? ⟨gb133, 1, none⟩ = some (.slice Ao79 t128.length co79) := (blk_cell BK133.out 1).trans rfl; have hfz84_0 := blk_frozen BK133.out 0; have hfz84_1 := blk_frozen BK133.out 1; have hnb85 := NB126_0.out; have hnc85 := NB0_126.out; have hcz86_0 : w81.cell? ⟨gb126, 0, none⟩ = some (.int .i64 0) := (blk_cell BK126.out 0).trans rfl; have hcz86_1 : w81.cell? ⟨gb126, 1, none⟩ = some (.slice none 0 0) := (blk_cell BK126.out 1).trans rfl; have hfz86_0 := blk_frozen BK126.out 0; have hfz86_1 := blk_frozen BK126.out 1))
     refine bodyPost_ret (results_cell_row rfl _ _ gb126 26 #[.int .i64 t127, .slice Ao83 y158.length co83] (0, 0) _ rfl (by (with_reducible repeat (first | refine blk_drewN ?_ _ | refine blk_drew ?_ | refine blk_alloc ?_ _)); refine blk_put (cs := #[.int .i64 t127, .slice none 0 0]) ?_ 1 _ rfl; (with_reducible repeat (first | refine blk_drewN ?_ _ | refine blk_drew ?_ | refine blk_alloc ?_ _)); refine blk_put (cs := #[.int .i64 0, .slice none 0 0]) ?_ 0 _ rfl; (with_reducible repeat (first | refine blk_drewN ?_ _ | refine blk_drew ?_ | refine blk_alloc ?_ _)); refine blk_far ?_ NB126_133.out _; (with_reducible repeat (first | refine blk_drewN ?_ _ | refine blk_drew ?_ | refine blk_alloc ?_ _)); exact BK126.out) Try.underlying26 rfl (by kernel_rfl)) rfl ?_
     exact ⟨_, by first | rfl | (simp [errW_none, errW_some] <;> rfl) | (simp [*, errW_none, errW_some] <;> rfl), rk_ (Kd.R_mono (Kd.R_far (p := ⟨gb126, 1, none⟩) (Kd.R_far (p := ⟨gb126, 0, none⟩) (Kd.R_far (p := ⟨gb133, 1, none⟩) (Kd.R_types (Kd.R_types HO160.out BK133.out (by decide)) BK126.out (by decide)) (fun _ hk => hk.1.2) (.slice Ao83 y158.length co83)) (fun _ hk => hk.2) (.int .i64 t127)) (fun _ hk => hk.2) (.slice Ao83 y158.length co83)) (fun _ hk => trivial)), r4_ HI0.out NB0_126.out NB0_133.out, by repeat (first | (with_reducible first | exact HB.out | apply below_alloc | apply pw_below_drewN | apply below_drew1 | refine below_set ?_ (IsS183.ge HI0.out) | refine below_set ?_ GE126.out | refine below_set ?_ GE133.out) | exact HB.out), r9_ HK.out GW126.out GW133.out⟩
    ·rw [if_neg c72] at H
     have c72b0 : (t134 == 3) = false := beq_eq_false_iff_ne.mpr c72
     have c72b1 : (t134 != 3) = true := bne_iff_ne.mpr c72
     simp only [Option.some.injEq, Prod.mk.injEq] at H
     obtain ⟨rfl, rfl, rfl, rfl⟩ := H
     go_enter Try.func97, Try.ntmps97
     go_wp2_with (first | ((with_reducible refine gate_dst (N := 2) rfl ?_); refine box_event ?hg (N := 2) ?hd (cs := #[.int .i64 0, .slice none 0 0]) (t := 26) ?hr ?_; (case hd => rfl); (case hg => rfl); (case hr => first | (go_simp; done) | (go_simp; rfl)); intro gb126 hg w87 hbox hb; replace HB := Aside0.mk (below_step (r7_ HB.out HI0.out) hb); have BK126 := Aside0.mk (hbox); have GW126 := Aside0.mk ((by rw [hg]; exact (keep_size (w := w) (g := g) (row := none) (r10_ HK.out)) : w.heap.size ≤ gb126)); have GE126 := Aside0.mk ((Nat.le_trans HW0.out (by rw [hg]; exact (keep_size (w := w) (g := g) (row := none) (r10_ HK.out)) : w.heap.size ≤ gb126) : w0.heap.size ≤ gb126)); replace HK := Aside0.mk (KeepBut.trans (r10_ HK.out) (KeepBut.of_below hb g none) (.inl rfl)); have NB0_126 := Aside0.mk ((by rw [hg]; exact Nat.ne_of_lt (IsS183.lt (show IsS183 w0 _ g s0_0 s0_1 s0_2 from r3_ HI0.out)) : g ≠ gb126)); have NB126_0 := Aside0.mk ((by rw [hg]; exact Nat.ne_of_gt (IsS183.lt (show IsS183 w0 _ g s0_0 s0_1 s0_2 from r3_ HI0.out)) : gb126 ≠ g)); replace HI0 := Aside0.mk (IsS183.below (r3_ HI0.out) hb); clear hb hbox hg) | ((with_reducible refine gate_callee (f := 109) rfl ?_); refine goesL_ (some 5) rfl rfl Try.func109 (by kernel_rfl) rfl #[.pointer (some ⟨g, 0, none⟩)] rfl ag_ ?_; (with_reducible refine (spec_l14Good.calls k g s0_0 s0_1 s0_2 t127 t128 t131 t132 w0 _ ?side1 ?side2 A2.out).mono ?_); (case side1 => exact r2_ HI0.out NB0_126.out); (case side2 => exact r5_ HB.out HI0.out GE126.out); rintro e w88 ⟨v129, rfl, ho0, hi, hb, hk⟩; refine ⟨_, rfl, ?_⟩; replace BK126 := Aside0.mk (KeepBut.blk hk (g' := gb126) (o := .cells #[.int .i64 0, .slice none 0 0] 26 (0, 0)) (r0_ BK126.out) NB126_0.out (by simp)); have HO130 := Aside0.mk (Kd.R_lower ho0 (keep_size (w := w) (g := g) (row := none) (r6_ HK.out GW126.out))); replace HK := Aside0.mk (KeepBut.trans (r6_ HK.out GW126.out) hk (.inl rfl)); replace HB := Aside0.mk (hb); replace HI0 := Aside0.mk (hi); (try clear hb); (try clear hb2); (try clear hk); (try clear hi); (try clear ho0)) | ((with_reducible refine gate_dst (N := 3) rfl ?_); refine box_event ?hg (N := 3) ?hd (cs := #[.int .i64 0, .slice none 0 0]) (t := 26) ?hr ?_; (case hd => rfl); (case hg => rfl); (case hr => first | (go_simp; done) | (go_simp; rfl)); intro gb133 hg w89 hbox hb; replace HO130 := Aside0.mk (Kd.R_below (rk_ HO130.out) hb); replace HB := Aside0.mk (below_step (r5_ HB.out HI0.out GE126.out) hb); have BK133 := Aside0.mk (hbox); have GW133 := Aside0.mk ((by rw [hg]; exact (keep_size (w := w) (g := g) (row := none) (r6_ HK.out GW126.out)) : w.heap.size ≤ gb133)); have GE133 := Aside0.mk ((Nat.le_trans HW0.out (by rw [hg]; exact (keep_size (w := w) (g := g) (row := none) (r6_ HK.out GW126.out)) : w.heap.size ≤ gb133) : w0.heap.size ≤ gb133)); replace HK := Aside0.mk (KeepBut.trans (r6_ HK.out GW126.out) (KeepBut.of_below hb g none) (.inl rfl)); have NB126_133 := Aside0.mk ((by rw [hg]; exact Nat.ne_of_lt (blk_lt (g := gb126) (o := .cells #[.int .i64 0, .slice none 0 0] 26 (0, 0)) (r0_ BK126.out)) : gb126 ≠ gb133)); have NB133_126 := Aside0.mk ((by rw [hg]; exact Nat.ne_of_gt (blk_lt (g := gb126) (o := .cells #[.int .i64 0, .slice none 0 0] 26 (0, 0)) (r0_ BK126.out)) : gb133 ≠ gb126)); replace BK126 := Aside0.mk (blk_below (g := gb126) (o := .cells #[.int .i64 0, .slice none 0 0] 26 (0, 0)) (r0_ BK126.out) hb); have NB0_133 := Aside0.mk ((by rw [hg]; exact Nat.ne_of_lt (IsS183.lt (show IsS183 w0 _ g s0_0 t131 t132 from r2_ HI0.out NB0_126.out)) : g ≠ gb133)); have NB133_0 := Aside0.mk ((by rw [hg]; exact Nat.ne_of_gt (IsS183.lt (show IsS183 w0 _ g s0_0 t131 t132 from r2_ HI0.out NB0_126.out)) : gb133 ≠ g)); replace HI0 := Aside0.mk (IsS183.below (r2_ HI0.out NB0_126.out) hb); clear hb hbox hg; have hnb90 := NB133_126.out; have hnc90 := NB126_133.out; have hnb91 := NB133_0.out; have hnc91 := NB0_133.out; have hcz92_0 : w89.cell? ⟨gb133, 0, none⟩ = some (.int .i64 0) := (blk_cell BK133.out 0).trans rfl; have hcz92_1 : w89.cell? ⟨gb133, 1, none⟩ = some (.slice none 0 0) := (blk_cell BK133.out 1).trans rfl; have hfz92_0 := blk_frozen BK133.out 0; have hfz92_1 := blk_frozen BK133.out 1; obtain ⟨Ao93, co93, eo93⟩ := Kd.R_slice HO130.out; subst eo93) | ((with_reducible refine gate_callee (f := 108) rfl ?_); refine goesL_ (some 7) rfl rfl Try.func108 (by kernel_rfl) rfl #[.pointer (some ⟨g, 0, none⟩), .int .i64 30] rfl ag_ ?_; (with_reducible refine (spec_l01Next.calls g s0_0 t131 t132 30 t134 t135 t136 w0 _ ?side1 ?side2 A3.out).mono ?_); (case side1 => exact r4_ HI0.out NB0_126.out NB0_133.out); (case side2 => repeat (first | (with_reducible first | exact HB.out | apply below_alloc | apply pw_below_drewN | apply below_drew1 | refine below_set ?_ (IsS183.ge HI0.out) | refine below_set ?_ GE126.out | refine below_set ?_ GE133.out) | exact HB.out)); rintro e w94 ⟨rfl, hi, hb, hk⟩; refine ⟨_, rfl, ?_⟩; replace BK126 := Aside0.mk (KeepBut.blk hk (g' := gb126) (o := .cells #[.int .i64 0, .slice none 0 0] 26 (0, 0)) (r12_ NB126_133.out BK126.out) NB126_0.out (by simp)); replace HO130 := Aside0.mk (Kd.R_mono (Kd.R_keep (IsS183.apart (show IsS183 w0 _ g s0_0 t131 t132 from r4_ HI0.out NB0_126.out NB0_133.out) (rk_ ((Kd.R_mono (Kd.R_far (p := ⟨gb133, 1, none⟩) (Kd.R_far (p := ⟨gb133, 0, none⟩) (Kd.R_types HO130.out BK133.out (by decide)) (fun _ hk => hk.2) (.int .i64 t127)) (fun _ hk => hk.2) (.slice Ao93 t128.length co93)) (fun _ h_ => h_.1)))) (by decide)) hk (fun _ h => h.2)) (fun _ h => h.1)); replace BK133 := Aside0.mk (KeepBut.blk hk (g' := gb133) (o := .cells #[.int .i64 t127, .slice Ao93 t128.length co93] 26 (0, 0)) (by (with_reducible repeat (first | refine blk_drewN ?_ _ | refine blk_drew ?_ | refine blk_alloc ?_ _)); refine blk_put (cs := #[.int .i64 t127, .slice none 0 0]) ?_ 1 _ rfl; (with_reducible repeat (first | refine blk_drewN ?_ _ | refine blk_drew ?_ | refine blk_alloc ?_ _)); refine blk_put (cs := #[.int .i64 0, .slice none 0 0]) ?_ 0 _ rfl; (with_reducible repeat (first | refine blk_drewN ?_ _ | refine blk_drew ?_ | refine blk_alloc ?_ _)); exact BK133.out) NB133_0.out (by simp)); replace HK := Aside0.mk (KeepBut.trans (r9_ HK.out GW126.out GW133.out) hk (.inl rfl)); replace HB := Aside0.mk (hb); replace HI0 := Aside0.mk (hi); (try clear hb); (try clear hb2); (try clear hk); (try clear hi); have hcz95_0 : w94.cell? ⟨gb133, 0, none⟩ = some (.int .i64 t127) := (blk_cell BK133.out 0).trans rfl; have hcz95_1 : w94.cell? ⟨gb133, 1, none⟩ = some (.slice Ao93 t128.length co93) := (blk_cell BK133.out 1).trans rfl; have hfz95_0 := blk_frozen BK133.out 0; have hfz95_1 := blk_frozen BK133.out 1; have hnb96 := NB126_0.out; have hnc96 := NB0_126.out; have hcz97_0 : w94.cell? ⟨gb126, 0, none⟩ = some (.int .i64 0) := (blk_cell BK126.out 0).trans rfl; have hcz97_1 : w94.cell? ⟨gb126, 1, none⟩ = some (.slice none 0 0) := (blk_cell BK126.out 1).trans rfl; have hfz97_0 := blk_frozen BK126.out 0; have hfz97_1 := blk_frozen BK126.out 1))
     refine bodyPost_ret (results_cell_row rfl _ _ gb126 26 #[.int .i64 t127, .slice Ao93 t128.length co93] (0, 0) _ rfl (by (with_reducible repeat (first | refine blk_drewN ?_ _ | refine blk_drew ?_ | refine blk_alloc ?_ _)); refine blk_put (cs := #[.int .i64 t127, .slice none 0 0]) ?_ 1 _ rfl; (with_reducible repeat (first | refine blk_drewN ?_ _ | refine blk_drew ?_ | refine blk_alloc ?_ _)); refine blk_put (cs := #[.int .i64 0, .slice none 0 0]) ?_ 0 _ rfl; (with_reducible repeat (first | refine blk_drewN ?_ _ | refine blk_drew ?_ | refine blk_alloc ?_ _)); exact BK126.out) Try.underlying26 rfl (by kernel_rfl)) rfl ?_
     exact ⟨_, by first | rfl | (simp [errW_none, errW_some] <;> rfl) | (simp [*, errW_none, errW_some] <;> rfl), rk_ (Kd.R_mono (Kd.R_far (p := ⟨gb126, 1, none⟩) (Kd.R_far (p := ⟨gb126, 0, none⟩) (Kd.R_types HO130.out BK126.out (by decide)) (fun _ hk => hk.2) (.int .i64 t127)) (fun _ hk => hk.2) (.slice Ao93 t128.length co93)) (fun _ hk => trivial)), r4_ HI0.out NB0_126.out NB0_133.out, by repeat (first | (with_reducible first | exact HB.out | apply below_alloc | apply pw_below_drewN | apply below_drew1 | refine below_set ?_ (IsS183.ge HI0.out) | refine below_set ?_ GE126.out | refine below_set ?_ GE133.out) | exact HB.out), r9_ HK.out GW126.out GW133.out⟩
def spec_l01In.f (a0 : Int) (a1 : Int) (a2 : Int) : Option (Bool) := if a0 ≥ a1 then (some (decide (a0 ≤ a2))) else (some false)
set_option maxHeartbeats 8000000 in
set_option maxRecDepth 100000 in
theorem spec_l01In.calls (a0 : Int) (a1 : Int) (a2 : Int) (r : Bool) (w : World) (h : spec_l01In.f a0 a1 a2 = some r) :
    Calls Try.prog 165 #[.int .i64 a0, .int .i64 a1, .int .i64 a2] w fun e w' => e = .returned (.bool r) ∧ Drawn0 w w' := by
  have H : (if a0 ≥ a1 then (some (decide (a0 ≤ a2))) else (some false)) = some r := h
  clear h
  by_cases c4 : a0 ≥ a1
  · rw [if_pos c4] at H
    have c4b0 : decide (a1 ≤ a0) = true := decide_eq_true c4
    clear c4
    obtain rfl := Option.some.inj H
    go_enter Try.func165, Try.ntmps165
    go_wp2
    go_ret
    exact ⟨by first | rfl | (simp; done) | (simp [*]; done), by repeat (first | exact Drawn0.refl _ | apply Drawn0.step)⟩
  · rw [if_neg c4] at H
    have c4b0 : decide (a1 ≤ a0) = false := decide_eq_false c4
    clear c4
    obtain rfl := Option.some.inj H
    go_enter Try.func165, Try.ntmps165
    go_wp2
    go_ret
    exact ⟨by first | rfl | (simp; done) | (simp [*]; done), by repeat (first | exact Drawn0.refl _ | apply Drawn0.step)⟩
def spec_IsCircuit.l0 : Nat → Int → Int → List Int → Option (Bool)
 | 0, _, _, _ => none
 | k + 1, x3, x162000, x162001 => if x3 < (x162001.length : Int) then (if 0 ≤ x3 then ((spec_l01In.f (rd x162001 x3) 1 100000).bind fun t163 => (if t163 = true then (spec_IsCircuit.l0 k (wrap64 (x3 + 1)) x162000 x162001) else (some false))) else (none)) else ((spec_l01In.f x162000 0 100000).bind fun t164 => (if t164 = true then ((spec_l01In.f (x162001.length : Int) 1 10).bind fun t165 => (some t165)) else (some false)))
def spec_IsCircuit.f (k : Nat) (a0_0 : Int) (l0_1 : List Int) : Option (Bool) := spec_IsCircuit.l0 k 0 a0_0 l0_1
set_option maxHeartbeats 8000000 in
set_option maxRecDepth 100000 in
theorem spec_IsCircuit.calls (k : Nat) (a0_0 : Int) (A0_1 : Option Addr) (c0_1 : Nat) (l0_1 : List Int) (r : Bool) (w : World) (hr0_1 : Kd.C (Kd.int .i64) w A0_1 l0_1.length l0_1) (hc0_1 : l0_1.length ≤ c0_1) (h : spec_IsCircuit.f k a0_0 l0_1 = some r) :
  Calls Try.prog 106 #[.agg #[.int .i64 a0_0, .slice A0_1 l0_1.length c0_1]] w fun e w' => e = .returned (.bool r) ∧ Below w.heap.size w w' := by
 have hu26 := Try.underlying26
 have HR0_1 := Aside0.mk hr0_1
 have HC0_1 := Aside0.mk hc0_1
 clear hr0_1 hc0_1
 have HB := Aside0.mk (Below.refl w.heap.size w)
 have H : (spec_IsCircuit.l0 k 0 a0_0 l0_1) = some r := h
 clear h
 have H' := Aside0.mk H
 clear H
 go_enter Try.func106, Try.ntmps106
 go_wp2_with (first | ((with_reducible refine gate_dst (N := 1) rfl ?_); (try (refine gate_guard (by rfl) ?_; dsimp only)); refine box_event ?hg (N := 1) ?hd (cs := #[.int .i64 a0_0, .slice A0_1 l0_1.length c0_1]) (t := 26) ?hr ?_; (case hd => rfl); (case hg => rfl); (case hr => first | (go_simp; done) | (go_simp; rfl)); intro gb161 hg w2 hbox hb; have BK161 := Aside0.mk (hbox); have GW161 := Aside0.mk ((by rw [hg]; exact (below_size (bl_ HB.out)) : w.heap.size ≤ gb161)); have GE161 := Aside0.mk ((by rw [hg]; exact (below_size (bl_ HB.out)) : w.heap.size ≤ gb161)); replace HB := Aside0.mk (below_step (bl_ HB.out) hb); clear hb hbox hg))
 go_loopg [3] k (fun kq v3 w' => ∃ (x3_1 : Int), v3 = .int .i64 x3_1 ∧ Aside0 (spec_IsCircuit.l0 kq x3_1 a0_0 l0_1 = some r) ∧ Aside0 (kq ≤ k) ∧ Aside0 (w'.heap[gb161]? = some (.cells #[.int .i64 a0_0, (.slice A0_1 l0_1.length c0_1)] 26 (0, 0))) ∧ Aside0 (Below w.heap.size w w'))
 case atStart => exact ⟨(0), (by first | rfl | (simp; done) | (simp [*]; done)), H', ⟨Nat.le_refl _⟩, ⟨r0_ BK161.out⟩, ⟨r1_ HB.out GE161.out⟩⟩
 case round =>
  clear H'
  try clear c1
  try clear p2
  obtain ⟨x3_1, rfl, HA, HK1, BK161, HB⟩ := hrel
  cases gk with
  | zero => exact absurd HA.out (by simp [spec_IsCircuit.l0])
  | succ k1 =>
   have H := HA.out
   clear HA
   simp only [spec_IsCircuit.l0] at H
   by_cases c3 : x3_1 < (l0_1.length : Int)
   ·rw [if_pos c3] at H
    have c3b0 : decide (x3_1 < (l0_1.length : Int)) = true := decide_eq_true c3
    clear c3
    by_cases c4 : 0 ≤ x3_1
    case neg =>
     rw [if_neg c4] at H
     exact absurd H (by simp)
    rw [if_pos c4] at H
    have c4b0 : decide (0 ≤ x3_1) = true := decide_eq_true c4
    clear c4
    replace H := Option.bind_eq_some_iff.mp H
    obtain ⟨t163, A50, H⟩ := H
    replace H : (if t163 = true then (spec_IsCircuit.l0 k1 (wrap64 (x3_1 + 1)) a0_0 l0_1) else (some false)) = some r := H
    have A5 := Aside0.mk A50
    clear A50
    by_cases c6 : t163 = true
    ·subst c6
     replace H : (spec_IsCircuit.l0 k1 (wrap64 (x3_1 + 1)) a0_0 l0_1) = some r := by rw [if_pos rfl] at H; exact H
     have H' := Aside0.mk H
     clear H
     have hcz7_0 : wr.cell? ⟨gb161, 0, none⟩ = some (.int .i64 a0_0) := (blk_cell BK161.out 0).trans rfl
     have hcz7_1 : wr.cell? ⟨gb161, 1, none⟩ = some (.slice A0_1 l0_1.length c0_1) := (blk_cell BK161.out 1).trans rfl
     have hfz7_0 := blk_frozen BK161.out 0
     have hfz7_1 := blk_frozen BK161.out 1
     have p162 : 0 ≤ (x3_1 : Int) := od_
     have q162 : x3_1 < (l0_1.length : Int) := od_
     obtain ⟨ad162, e162, hx162_0⟩ := Kd.at_int HR0_1.out x3_1 p162 q162
     cases e162
     replace hx162_0 := bc_ HB.out hx162_0
     replace p162 := eq_true p162
     replace q162 := eq_true q162
     go_wp2_with (first | ((with_reducible refine gate_callee (f := 165) rfl ?_); refine goesL_ (some 16) rfl rfl Try.func165 (by kernel_rfl) rfl #[.int .i64 (rd l0_1 x3_1), .int .i64 1, .int .i64 100000] rfl ag_ ?_; (with_reducible refine (spec_l01In.calls (rd l0_1 x3_1) 1 100000 true _ A5.out).mono ?_); rintro e w' ⟨rfl, ⟨nd, rfl⟩⟩; refine ⟨_, rfl, ?_⟩))
     go_roundg k1
     case measure => have := HK1.out; omega
     case rel => exact ⟨(wrap64 (x3_1 + 1)), (by first | rfl | (simp; done) | (simp [*]; done)), H', ⟨by have := HK1.out; omega⟩, ⟨r0_ BK161.out⟩, ⟨r1_ HB.out GE161.out⟩⟩
    ·replace c6 := Bool.eq_false_iff.mpr c6
     subst c6
     replace H : (some false) = some r := by rw [if_neg (show ¬ (false = true) by decide)] at H; exact H
     obtain rfl := Option.some.inj H
     have hcz8_0 : wr.cell? ⟨gb161, 0, none⟩ = some (.int .i64 a0_0) := (blk_cell BK161.out 0).trans rfl
     have hcz8_1 : wr.cell? ⟨gb161, 1, none⟩ = some (.slice A0_1 l0_1.length c0_1) := (blk_cell BK161.out 1).trans rfl
     have hfz8_0 := blk_frozen BK161.out 0
     have hfz8_1 := blk_frozen BK161.out 1
     have p162 : 0 ≤ (x3_1 : Int) := od_
     have q162 : x3_1 < (l0_1.length : Int) := od_
     obtain ⟨ad162, e162, hx162_0⟩ := Kd.at_int HR0_1.out x3_1 p162 q162
     cases e162
     replace hx162_0 := bc_ HB.out hx162_0
     replace p162 := eq_true p162
     replace q162 := eq_true q162
     go_wp2_with (first | ((with_reducible refine gate_callee (f := 165) rfl ?_); refine goesL_ (some 16) rfl rfl Try.func165 (by kernel_rfl) rfl #[.int .i64 (rd l0_1 x3_1), .int .i64 1, .int .i64 100000] rfl ag_ ?_; (with_reducible refine (spec_l01In.calls (rd l0_1 x3_1) 1 100000 false _ A5.out).mono ?_); rintro e w' ⟨rfl, ⟨nd, rfl⟩⟩; refine ⟨_, rfl, ?_⟩))
     go_ret
     exact ⟨by first | rfl | (simp [errW_none, errW_some] <;> rfl) | (simp [*, errW_none, errW_some] <;> rfl), r1_ HB.out GE161.out⟩
   ·rw [if_neg c3] at H
    have c3b0 : decide (x3_1 < (l0_1.length : Int)) = false := decide_eq_false c3
    clear c3
    replace H := Option.bind_eq_some_iff.mp H
    obtain ⟨t164, A90, H⟩ := H
    replace H : (if t164 = true then ((spec_l01In.f (l0_1.length : Int) 1 10).bind fun t165 => (some t165)) else (some false)) = some r := H
    have A9 := Aside0.mk A90
    clear A90
    by_cases c10 : t164 = true
    ·subst c10
     replace H : ((spec_l01In.f (l0_1.length : Int) 1 10).bind fun t165 => (some t165)) = some r := by rw [if_pos rfl] at H; exact H
     replace H := Option.bind_eq_some_iff.mp H
     obtain ⟨t165, A110, H⟩ := H
     replace H : (some t165) = some r := H
     have A11 := Aside0.mk A110
     clear A110
     obtain rfl := Option.some.inj H
     have hcz12_0 : wr.cell? ⟨gb161, 0, none⟩ = some (.int .i64 a0_0) := (blk_cell BK161.out 0).trans rfl
     have hcz12_1 : wr.cell? ⟨gb161, 1, none⟩ = some (.slice A0_1 l0_1.length c0_1) := (blk_cell BK161.out 1).trans rfl
     have hfz12_0 := blk_frozen BK161.out 0
     have hfz12_1 := blk_frozen BK161.out 1
     go_wp2_with (first | ((with_reducible refine gate_callee (f := 165) rfl ?_); refine goesL_ (some 20) rfl rfl Try.func165 (by kernel_rfl) rfl #[.int .i64 a0_0, .int .i64 0, .int .i64 100000] rfl ag_ ?_; (with_reducible refine (spec_l01In.calls a0_0 0 100000 true _ A9.out).mono ?_); rintro e w' ⟨rfl, ⟨nd, rfl⟩⟩; refine ⟨_, rfl, ?_⟩) | (go_at_call 165; (with_reducible refine (spec_l01In.calls (l0_1.length : Int) 1 10 t165 _ A11.out).mono ?_); rintro e w' ⟨rfl, ⟨nd, rfl⟩⟩))
     go_ret
     exact ⟨by first | rfl | (simp [errW_none, errW_some] <;> rfl) | (simp [*, errW_none, errW_some] <;> rfl), r1_ HB.out GE161.out⟩
    ·replace c10 := Bool.eq_false_iff.mpr c10
     subst c10
     replace H : (some false) = some r := by rw [if_neg (show ¬ (false = true) by decide)] at H; exact H
     obtain rfl := Option.some.inj H
     have hcz13_0 : wr.cell? ⟨gb161, 0, none⟩ = some (.int .i64 a0_0) := (blk_cell BK161.out 0).trans rfl
     have hcz13_1 : wr.cell? ⟨gb161, 1, none⟩ = some (.slice A0_1 l0_1.length c0_1) := (blk_cell BK161.out 1).trans rfl
     have hfz13_0 := blk_frozen BK161.out 0
     have hfz13_1 := blk_frozen BK161.out 1
     go_wp2_with (first | ((with_reducible refine gate_callee (f := 165) rfl ?_); refine goesL_ (some 20) rfl rfl Try.func165 (by kernel_rfl) rfl #[.int .i64 a0_0, .int .i64 0, .int .i64 100000] rfl ag_ ?_; (with_reducible refine (spec_l01In.calls a0_0 0 100000 false _ A9.out).mono ?_); rintro e w' ⟨rfl, ⟨nd, rfl⟩⟩; refine ⟨_, rfl, ?_⟩))
     go_ret
     exact ⟨by first | rfl | (simp [errW_none, errW_some] <;> rfl) | (simp [*, errW_none, errW_some] <;> rfl), r1_ HB.out GE161.out⟩
def spec_l01Sum.l0 : Nat → List Int → Int → Int → Option (Int)
  | 0, _, _, _ => none
  | k + 1, x0, x3, x4 => if x4 < (x0.length : Int) then (if 0 ≤ x4 then (spec_l01Sum.l0 k x0 (wrap64 (x3 + (rd x0 x4))) (wrap64 (x4 + 1))) else (none)) else (some x3)
def spec_l01Sum.f (k : Nat) (l0 : List Int) : Option (Int) := spec_l01Sum.l0 k l0 0 0
set_option maxHeartbeats 8000000 in
set_option maxRecDepth 100000 in
theorem spec_l01Sum.calls (k : Nat) (A0 : Option Addr) (c0 : Nat) (l0 : List Int) (r : Int) (w : World) (hr0 : Kd.C (Kd.int .i64) w A0 l0.length l0) (hc0 : l0.length ≤ c0) (h : spec_l01Sum.f k l0 = some r) :
    Calls Try.prog 179 #[.slice A0 l0.length c0] w fun e w' => e = .returned (.int .i64 r) ∧ Drawn0 w w' := by
  have HR0 := Aside0.mk hr0
  have HC0 := Aside0.mk hc0
  clear hr0 hc0
  have H : (spec_l01Sum.l0 k l0 0 0) = some r := h
  clear h
  have H' := Aside0.mk H
  clear H
  go_enter Try.func179, Try.ntmps179
  go_wp2
  go_loopg [3, 4] k (fun kq v3 v4 w' => ∃ (x3_1 : Int) (x4_1 : Int), v3 = .int .i64 x3_1 ∧ v4 = .int .i64 x4_1 ∧ Aside0 (spec_l01Sum.l0 kq l0 x3_1 x4_1 = some r) ∧ Aside0 (kq ≤ k) ∧ Drawn0 w w')
  case atStart => exact ⟨(0), (0), (by first | rfl | (simp; done) | (simp [*]; done)), (by first | rfl | (simp; done) | (simp [*]; done)), H', ⟨Nat.le_refl _⟩, by repeat (first | exact Drawn0.refl _ | apply Drawn0.step)⟩
  case round =>
    clear H'
    try clear c1
    obtain ⟨x3_1, x4_1, rfl, rfl, HA, HK1, ⟨m1, rfl⟩⟩ := hrel
    cases gk with
    | zero => exact absurd HA.out (by simp [spec_l01Sum.l0])
    | succ k1 =>
      have H := HA.out
      clear HA
      simp only [spec_l01Sum.l0] at H
      by_cases c2 : x4_1 < (l0.length : Int)
      · rw [if_pos c2] at H
        have c2b0 : decide (x4_1 < (l0.length : Int)) = true := decide_eq_true c2
        clear c2
        by_cases c3 : 0 ≤ x4_1
        · rw [if_pos c3] at H
          have c3b0 : decide (0 ≤ x4_1) = true := decide_eq_true c3
          clear c3
          have H' := Aside0.mk H
          clear H
          have p166 : 0 ≤ (x4_1 : Int) := od_
          have q166 : x4_1 < (l0.length : Int) := od_
          obtain ⟨ad166, e166, hx166_0⟩ := Kd.at_int HR0.out x4_1 p166 q166
          cases e166
          replace p166 := eq_true p166
          replace q166 := eq_true q166
          go_wp2
          go_roundg k1
          case measure => have := HK1.out; omega
          case rel => exact ⟨(wrap64 (x3_1 + (rd l0 x4_1))), (wrap64 (x4_1 + 1)), (by first | rfl | (simp; done) | (simp [*]; done)), (by first | rfl | (simp; done) | (simp [*]; done)), H', ⟨by have := HK1.out; omega⟩, by repeat (first | exact Drawn0.refl _ | apply Drawn0.step)⟩
        · rw [if_neg c3] at H
          exact absurd H (by simp)
      · rw [if_neg c2] at H
        have c2b0 : decide (x4_1 < (l0.length : Int)) = false := decide_eq_false c2
        clear c2
        obtain rfl := Option.some.inj H
        go_wp2
        go_ret
        exact ⟨by first | rfl | (simp; done) | (simp [*]; done), by repeat (first | exact Drawn0.refl _ | apply Drawn0.step)⟩
def spec_l14Expected.f (k : Nat) (a0_0 : Int) (l0_1 : List Int) : Option (Int) := (spec_l01Sum.f k l0_1).bind fun t168 => (some (wrap64 (a0_0 + t168)))
set_option maxHeartbeats 8000000 in
set_option maxRecDepth 100000 in
theorem spec_l14Expected.calls (k : Nat) (a0_0 : Int) (A0_1 : Option Addr) (c0_1 : Nat) (l0_1 : List Int) (r : Int) (w : World) (hr0_1 : Kd.C (Kd.int .i64) w A0_1 l0_1.length l0_1) (hc0_1 : l0_1.length ≤ c0_1) (h : spec_l14Expected.f k a0_0 l0_1 = some r) :
    Calls Try.prog 107 #[.agg #[.int .i64 a0_0, .slice A0_1 l0_1.length c0_1]] w fun e w' => e = .returned (.int .i64 r) ∧ Below w.heap.size w w' := by
  have hu26 := Try.underlying26
  have HR0_1 := Aside0.mk hr0_1
  have HC0_1 := Aside0.mk hc0_1
  clear hr0_1 hc0_1
  have HB := Aside0.mk (Below.refl w.heap.size w)
  have H : ((spec_l01Sum.f k l0_1).bind fun t168 => (some (wrap64 (a0_0 + t168)))) = some r := h
  clear h
  replace H := Option.bind_eq_some_iff.mp H
  obtain ⟨t168, A20, H⟩ := H
  replace H : (some (wrap64 (a0_0 + t168))) = some r := H
  have A2 := Aside0.mk A20
  clear A20
  obtain rfl := Option.some.inj H
  go_enter Try.func107, Try.ntmps107
  go_wp2_with (first | ((with_reducible refine gate_dst (N := 1) rfl ?_); refine box_event ?hg (N := 1) ?hd (cs := #[.int .i64 a0_0, .slice A0_1 l0_1.length c0_1]) (t := 26) ?hr ?_; (case hd => rfl); (case hg => rfl); (case hr => first | (go_simp; done) | (go_simp; rfl)); intro gb167 hg w3 hbox hb; have BK167 := Aside0.mk (hbox); have GW167 := Aside0.mk ((by rw [hg]; exact (below_size (bl_ HB.out)) : w.heap.size ≤ gb167)); have GE167 := Aside0.mk ((by rw [hg]; exact (below_size (bl_ HB.out)) : w.heap.size ≤ gb167)); replace HB := Aside0.mk (below_step (bl_ HB.out) hb); clear hb hbox hg; have hcz4_0 : w3.cell? ⟨gb167, 0, none⟩ = some (.int .i64 a0_0) := (blk_cell BK167.out 0).trans rfl; have hcz4_1 : w3.cell? ⟨gb167, 1, none⟩ = some (.slice A0_1 l0_1.length c0_1) := (blk_cell BK167.out 1).trans rfl; have hfz4_0 := blk_frozen BK167.out 0; have hfz4_1 := blk_frozen BK167.out 1) | (go_at_call 179; (with_reducible refine (spec_l01Sum.calls k _ _ l0_1 t168 _ ?side1 ?side2 A2.out).mono ?_); (case side1 => exact r8_ HR0_1.out HB.out); (case side2 => exact HC0_1.out); rintro e w' ⟨rfl, ⟨nd, rfl⟩⟩; (try first | exact ⟨rfl, _, World.drewN_drewN _ _ _⟩ | exact ⟨rfl, _, Eq.trans (World.drewN_drewN _ _ _) (congrArg (World.drewN _) (Nat.add_assoc _ _ _))⟩)))
  repeat (go_quiet (first | ((with_reducible refine gate_dst (N := 1) rfl ?_); refine box_event ?hg (N := 1) ?hd (cs := #[.int .i64 a0_0, .slice A0_1 l0_1.length c0_1]) (t := 26) ?hr ?_; (case hd => rfl); (case hg => rfl); (case hr => first | (go_simp; done) | (go_simp; rfl)); intro gb167 hg w3 hbox hb; have BK167 := Aside0.mk (hbox); have GW167 := Aside0.mk ((by rw [hg]; exact (below_size (bl_ HB.out)) : w.heap.size ≤ gb167)); have GE167 := Aside0.mk ((by rw [hg]; exact (below_size (bl_ HB.out)) : w.heap.size ≤ gb167)); replace HB := Aside0.mk (below_step (bl_ HB.out) hb); clear hb hbox hg; have hcz4_0 : w3.cell? ⟨gb167, 0, none⟩ = some (.int .i64 a0_0) := (blk_cell BK167.out 0).trans rfl; have hcz4_1 : w3.cell? ⟨gb167, 1, none⟩ = some (.slice A0_1 l0_1.length c0_1) := (blk_cell BK167.out 1).trans rfl; have hfz4_0 := blk_frozen BK167.out 0; have hfz4_1 := blk_frozen BK167.out 1) | (go_at_call 179; (with_reducible refine (spec_l01Sum.calls k _ _ l0_1 t168 _ ?side1 ?side2 A2.out).mono ?_); (case side1 => exact r8_ HR0_1.out HB.out); (case side2 => exact HC0_1.out); rintro e w' ⟨rfl, ⟨nd, rfl⟩⟩; (try first | exact ⟨rfl, _, World.drewN_drewN _ _ _⟩ | exact ⟨rfl, _, Eq.trans (World.drewN_drewN _ _ _) (congrArg (World.drewN _) (Nat.add_assoc _ _ _))⟩))); try go_wp2_with (first | ((with_reducible refine gate_dst (N := 1) rfl ?_); refine box_event ?hg (N := 1) ?hd (cs := #[.int .i64 a0_0, .slice A0_1 l0_1.length c0_1]) (t := 26) ?hr ?_; (case hd => rfl); (case hg => rfl); (case hr => first | (go_simp; done) | (go_simp; rfl)); intro gb167 hg w3 hbox hb; have BK167 := Aside0.mk (hbox); have GW167 := Aside0.mk ((by rw [hg]; exact (below_size (bl_ HB.out)) : w.heap.size ≤ gb167)); have GE167 := Aside0.mk ((by rw [hg]; exact (below_size (bl_ HB.out)) : w.heap.size ≤ gb167)); replace HB := Aside0.mk (below_step (bl_ HB.out) hb); clear hb hbox hg; have hcz4_0 : w3.cell? ⟨gb167, 0, none⟩ = some (.int .i64 a0_0) := (blk_cell BK167.out 0).trans rfl; have hcz4_1 : w3.cell? ⟨gb167, 1, none⟩ = some (.slice A0_1 l0_1.length c0_1) := (blk_cell BK167.out 1).trans rfl; have hfz4_0 := blk_frozen BK167.out 0; have hfz4_1 := blk_frozen BK167.out 1) | (go_at_call 179; (with_reducible refine (spec_l01Sum.calls k _ _ l0_1 t168 _ ?side1 ?side2 A2.out).mono ?_); (case side1 => exact r8_ HR0_1.out HB.out); (case side2 => exact HC0_1.out); rintro e w' ⟨rfl, ⟨nd, rfl⟩⟩; (try first | exact ⟨rfl, _, World.drewN_drewN _ _ _⟩ | exact ⟨rfl, _, Eq.trans (World.drewN_drewN _ _ _) (congrArg (World.drewN _) (Nat.add_assoc _ _ _))⟩))))
  go_ret
  exact ⟨by first | rfl | (simp [errW_none, errW_some] <;> rfl) | (simp [*, errW_none, errW_some] <;> rfl), r1_ HB.out GE167.out⟩
end Go.Proofs.Ytmahecjbejffoaa.PFnCircuits
