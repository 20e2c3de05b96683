/- QFnCircuitse of the law FnCircuits: taken over, declaration by declaration, as far as the law leans on it (the words and the printed functions are the kit's own print). No condition but what each says. -/
import Derived.Test.YtmahecjbejffoaaZFnCircuitsav
import Derived.Test.YtmahecjbejffoaaZFnCircuitsbc
import Derived.Test.YtmahecjbejffoaaZFnCircuitsaw
import Derived.Test.YtmahecjbejffoaaZFnCircuitsax
import Derived.Test.YtmahecjbejffoaaZFnCircuitsay
import Derived.Test.YtmahecjbejffoaaZFnCircuitsaz
namespace Go.Proofs.Ytmahecjbejffoaa.PFnCircuits
open Go.RowKit Go.Proofs.YtmahecjbejffoaaW.PrintWords Go.Proofs.YtmahecjbejffoaaW.PrintLast Go.Proofs.YtmahecjbejffoaaW.PrintMore
attribute [local go_sem] max2_int min2_int max_two min_two max_three min_three max_four min_four   -- for this text's walks alone
set_option linter.unusedVariables false
set_option linter.unusedSimpArgs false
open Bool renaming true → t_, false → f_
mutual
def spec_DrawWorstPins.l0 : Nat → List (S26) → List Int → Int → List Int → Int → Int → Option ((List (S26)) × List Int × Int)
 | 0, _, _, _, _, _, _ => none
 | k + 1, x6, x7, x8, x256000, x256001, x256002 => if x8 > 0 then ((spec_l14Draw.f k x256000 x256001 x256002).bind fun bt265 => (if x6.length < 4398046511104 then ((spec_l14Reading.f k x256000 bt265.2.2.1 bt265.2.2.2 bt265.1 bt265.2.1).bind fun bt275 => (if x7.length < 17592186044416 then (spec_DrawWorstPins.l0 k (x6 ++ [(⟨bt265.1, bt265.2.1⟩ : S26)]) (x7 ++ [bt275.1]) (wrap64 (x8 - 1)) x256000 bt275.2.1 bt275.2.2) else (none))) else (none))) else ((spec_l01Next.f x256000 x256001 x256002 24).bind fun bt281 => (if bt281.1 = 0 then (if x7.length < 17592186044416 then ((spec_l01Pick.f x256000 bt281.2.1 bt281.2.2 (([10, 5, 100, 0, 101] : List Int))).bind fun bt290 => (some (x6, (x7 ++ [1]), bt290.1))) else (none)) else (if bt281.1 = 1 then ((spec_l14Good.f k x256000 bt281.2.1 bt281.2.2).bind fun bt293 => (spec_DrawWorstPins.l1 k x6 x7 x256000 bt293.2.2.1 bt293.2.2.2 bt293.1 bt293.2.1)) else ((spec_l01Pick.f x256000 bt281.2.1 bt281.2.2 (([10, 5, 100, 0, 101] : List Int))).bind fun bt324 => (some (x6, x7, bt324.1))))))
def spec_DrawWorstPins.l1 : Nat → List (S26) → List Int → List Int → Int → Int → Int → List Int → Option ((List (S26)) × List Int × Int)
 | 0, _, _, _, _, _, _, _ => none
 | k + 1, x6, x7, x256000, x256001, x256002, x300000, x300001 => (spec_l01Next.f x256000 x256001 x256002 2).bind fun bt300 => (if (x6.length : Int) < (wrap64 (32 + bt300.1)) then (if x6.length < 4398046511104 then (if x7.length < 17592186044416 then (spec_DrawWorstPins.l1 k (x6 ++ [(⟨x300000, x300001⟩ : S26)]) (x7 ++ [4000]) x256000 bt300.2.1 bt300.2.2 x300000 x300001) else (none)) else (none)) else ((spec_l01Pick.f x256000 bt300.2.1 bt300.2.2 (([10, 5, 100, 0, 101] : List Int))).bind fun bt318 => (some (x6, x7, bt318.1))))
end
def spec_DrawWorstPins.f (k : Nat) (l0 : List Int) : Option ((List (S26)) × List Int × Int) := (spec_l01From.f k l0).bind fun bt252 => ((spec_l01Next.f bt252.1 bt252.2.1 bt252.2.2 6).bind fun bt262 => (spec_DrawWorstPins.l0 k (([] : List (S26))) (([] : List Int)) bt262.1 bt252.1 bt262.2.1 bt262.2.2))
set_option maxHeartbeats 8000000 in
set_option maxRecDepth 100000 in
theorem spec_DrawWorstPins.calls (k : Nat) (A0 : Option Addr) (c0 : Nat) (l0 : List Int) (r1 : List (S26)) (r2 : List Int) (r3 : Int) (w : World) (hr0 : Kd.C (Kd.int .u8) w A0 l0.length l0) (hc0 : l0.length ≤ c0) (h : spec_DrawWorstPins.f k l0 = some (r1, r2, r3)) :
  Calls Try.prog 21 #[.slice A0 l0.length c0] w fun e w' => ∃ v0_ v1_ : Value, e = .returned (.tuple #[v0_, v1_, .int .i64 r3]) ∧ Kd.R k26 26 w' w.heap.size (fun k_ => some k_ ≠ (v1_ : Value).ownBlock) v0_ r1 ∧ Kd.R (Kd.int .i64) 2 w' w.heap.size (fun _ => True) v1_ r2 ∧ Below w.heap.size w w' := by
 have hu26 := Try.underlying26
 have HR0 := Aside0.mk hr0
 have HC0 := Aside0.mk hc0
 clear hr0 hc0
 have HB := Aside0.mk (Below.refl w.heap.size w)
 have H : ((spec_l01From.f k l0).bind fun bt252 => ((spec_l01Next.f bt252.1 bt252.2.1 bt252.2.2 6).bind fun bt262 => (spec_DrawWorstPins.l0 k (([] : List (S26))) (([] : List Int)) bt262.1 bt252.1 bt262.2.1 bt262.2.2))) = some (r1, r2, r3) := h
 clear h
 replace H := Option.bind_eq_some_iff.mp H
 obtain ⟨⟨t252, t253, t254⟩, A20, H⟩ := H
 replace H : ((spec_l01Next.f t252 t253 t254 6).bind fun bt262 => (spec_DrawWorstPins.l0 k (([] : List (S26))) (([] : List Int)) bt262.1 t252 bt262.2.1 bt262.2.2)) = some (r1, r2, r3) := H
 have A2 := Aside0.mk A20
 clear A20
 obtain ⟨y256, hy256⟩ : ∃ y_ : List (S26), y_ = (([] : List (S26))) := ⟨_, rfl⟩
 replace H : ((spec_l01Next.f t252 t253 t254 6).bind fun bt262 => (spec_DrawWorstPins.l0 k y256 (([] : List Int)) bt262.1 t252 bt262.2.1 bt262.2.2)) = some (r1, r2, r3) := by first | (rw [hy256]; with_reducible exact H) | (have H2_ := (Option.bind_some _ _).symm.trans H; rw [hy256]; with_reducible exact H2_) | (have H2_ := (Option.bind_some _ _).symm.trans H; with_reducible exact H2_) | with_reducible exact H | (rw [hy256]; exact H) | exact H
 have Ny256 := Aside0.mk hy256
 clear hy256
 obtain ⟨y259, hy259⟩ : ∃ y_ : List Int, y_ = (([] : List Int)) := ⟨_, rfl⟩
 replace H : ((spec_l01Next.f t252 t253 t254 6).bind fun bt262 => (spec_DrawWorstPins.l0 k y256 y259 bt262.1 t252 bt262.2.1 bt262.2.2)) = some (r1, r2, r3) := by first | (rw [hy259]; with_reducible exact H) | (have H2_ := (Option.bind_some _ _).symm.trans H; rw [hy259]; with_reducible exact H2_) | (have H2_ := (Option.bind_some _ _).symm.trans H; with_reducible exact H2_) | with_reducible exact H | (rw [hy259]; exact H) | exact H
 have Ny259 := Aside0.mk hy259
 clear hy259
 replace H := Option.bind_eq_some_iff.mp H
 obtain ⟨⟨t262, t263, t264⟩, A30, H⟩ := H
 replace H : (spec_DrawWorstPins.l0 k y256 y259 t262 t252 t263 t264) = some (r1, r2, r3) := H
 have A3 := Aside0.mk A30
 clear A30
 have H' := Aside0.mk H
 clear H
 go_enter Try.func21, Try.ntmps21
 go_wp2_with (first | ((with_reducible refine gate_callee (f := 96) rfl ?_); refine goesL_ (some 12) rfl rfl Try.func96 (by kernel_rfl) rfl #[.slice A0 l0.length c0] rfl ag_ ?_; (with_reducible refine (spec_l01From.calls k _ _ l0 t252 t253 t254 w _ ?side1 ?side2 ?side3 A2.out).mono ?_); (case side1 => exact r15_ HB.out); (case side2 => exact HR0.out); (case side3 => exact HC0.out); rintro e w4 ⟨g255, rfl, hi, hb, hb2⟩; refine ⟨_, rfl, ?_⟩; replace HB := Aside0.mk (hb); have HI255 := Aside0.mk (hi); (try clear hb); (try clear hb2); (try clear hk); (try clear hi)) | ((with_reducible refine gate_dst (N := 13) rfl ?_); refine Kd.S_lit k26 _ 26 ?hg (N := 13) ?hd (xs := ([] : List (S26))) (inner := []) (ok := fun _ => True) (okp := fun _ => True) ?hr ?hp (fun _ hk => hk) trivial (Below.refl _ _) (Nat.le_refl _) (by simp) ?_; (case hd => rfl); (case hg => rfl); (case hr => first | (go_simp; done) | (go_simp; rfl)); (case hp => exact (Reps.none _ _)); intro v257 w5 ho6 hb hg_ hnew_; clear hg_ hnew_; (first | rw [← Ny256.out] at ho6 | (simp only [Int.reduceToNat] at ho6; rw [← Ny256.out] at ho6)); have HO258 := Aside0.mk (Kd.S_lower ho6 (below_size (r7_ HB.out HI255.out))); replace HB := Aside0.mk (below_step (r7_ HB.out HI255.out) hb); replace HI255 := Aside0.mk (IsS183.below (r3_ HI255.out) hb); clear hb ho6) | ((with_reducible refine gate_dst (N := 14) rfl ?_); refine Kd.R_lit (Kd.int .i64) _ 2 ?hg (N := 14) ?hd (xs := ([] : List Int)) (inner := []) (ok := fun _ => True) (okp := fun _ => True) ?hr ?hp (fun _ hk => hk) trivial (Below.refl _ _) (Nat.le_refl _) (by simp) ?_; (case hd => rfl); (case hg => rfl); (case hr => first | (go_simp; done) | (go_simp; rfl)); (case hp => exact (Reps.none _ _)); intro v260 w7 ho8 hb hg_ hnew_; clear hg_ hnew_; (first | rw [← Ny259.out] at ho8 | (simp only [Int.reduceToNat] at ho8; rw [← Ny259.out] at ho8)); replace HO258 := Aside0.mk (Kd.S_elder' (by (with_reducible repeat (first | apply Kd.S_alloc | apply Kd.S_drewN | apply Kd.S_drew)); exact HO258.out) (Kd.R_base ho8) hb); have HO261 := Aside0.mk (Kd.R_lower ho8 (below_size (r7_ HB.out HI255.out))); replace HB := Aside0.mk (below_step (r7_ HB.out HI255.out) hb); replace HI255 := Aside0.mk (IsS183.below (r3_ HI255.out) hb); clear hb ho8) | ((with_reducible refine gate_callee (f := 108) rfl ?_); refine goesL_ (some 16) rfl rfl Try.func108 (by kernel_rfl) rfl #[.pointer (some ⟨g255, 0, none⟩), .int .i64 6] rfl ag_ ?_; (with_reducible refine (spec_l01Next.calls g255 t252 t253 t254 6 t262 t263 t264 w _ ?side1 ?side2 A3.out).mono ?_); (case side1 => exact r3_ HI255.out); (case side2 => exact r7_ HB.out HI255.out); rintro e w9 ⟨rfl, hi, hb, hk⟩; refine ⟨_, rfl, ?_⟩; replace HO258 := Aside0.mk (Kd.S_mono (Kd.S_keep (IsS183.apartS (show IsS183 w _ g255 t252 t253 t254 from r3_ HI255.out) (by (with_reducible repeat (first | apply Kd.S_alloc | apply Kd.S_drewN | apply Kd.S_drew)); exact HO258.out) (by decide)) hk (fun _ h => h.2)) (fun _ h => h.1)); replace HO261 := Aside0.mk (Kd.R_mono (Kd.R_keep (IsS183.apart (show IsS183 w _ g255 t252 t253 t254 from r3_ HI255.out) (rk_ HO261.out) (by decide)) hk (fun _ h => h.2)) (fun _ h => h.1)); replace HB := Aside0.mk (hb); replace HI255 := Aside0.mk (hi); (try clear hb); (try clear hb2); (try clear hk); (try clear hi)))
 go_loopg [6, 7, 8] k (fun kq v6 v7 v8 w' => ∃ (x6_1 : List (S26)) (x7_1 : List Int) (x8_1 : Int) (x256001_1 : Int) (x256002_1 : Int), v8 = .int .i64 x8_1 ∧ Aside0 (spec_DrawWorstPins.l0 kq x6_1 x7_1 x8_1 t252 x256001_1 x256002_1 = some (r1, r2, r3)) ∧ Aside0 (kq ≤ k) ∧ Aside0 (Kd.S k26 26 w' w.heap.size (fun k_ => some k_ ≠ (v7 : Value).ownBlock) v6 x6_1) ∧ Aside0 (Kd.R (Kd.int .i64) 2 w' w.heap.size (fun _ => True) v7 x7_1) ∧ Aside0 (IsS183 w w' g255 t252 x256001_1 x256002_1) ∧ Aside0 (Below w.heap.size w w'))
 case atStart => exact ⟨(y256), (y259), (t262), (t263), (t264), (by first | rfl | (simp; done) | (simp [*]; done)), H', ⟨Nat.le_refl _⟩, ⟨by (with_reducible repeat (first | apply Kd.S_alloc | apply Kd.S_drewN | apply Kd.S_drew)); exact Kd.S_mono HO258.out (fun _ hk => hk.2)⟩, ⟨rk_ HO261.out⟩, ⟨r3_ HI255.out⟩, ⟨r7_ HB.out HI255.out⟩⟩
 case round =>
  clear H'
  try clear c1
  try clear c2
  try clear p2
  try clear c9
  obtain ⟨x6_1, x7_1, x8_1, x256001_1, x256002_1, rfl, HA, HK1, HO_6, HO_7, HI255, HB⟩ := hrel
  cases gk with
  | zero => exact absurd HA.out (by simp [spec_DrawWorstPins.l0])
  | succ k1 =>
   have H := HA.out
   clear HA
   simp only [spec_DrawWorstPins.l0] at H
   by_cases c10 : x8_1 > 0
   ·rw [if_pos c10] at H
    have c10b0 : decide (0 < x8_1) = true := decide_eq_true c10
    clear c10
    replace H := Option.bind_eq_some_iff.mp H
    obtain ⟨⟨t265, t266, t269, t270⟩, A110, H⟩ := H
    replace H : (if x6_1.length < 4398046511104 then ((spec_l14Reading.f k1 t252 t269 t270 t265 t266).bind fun bt275 => (if x7_1.length < 17592186044416 then (spec_DrawWorstPins.l0 k1 (x6_1 ++ [(⟨t265, t266⟩ : S26)]) (x7_1 ++ [bt275.1]) (wrap64 (x8_1 - 1)) t252 bt275.2.1 bt275.2.2) else (none))) else (none)) = some (r1, r2, r3) := H
    have A11 := Aside0.mk A110
    clear A110
    by_cases c12 : x6_1.length < 4398046511104
    case neg =>
     rw [if_neg c12] at H
     exact absurd H (by simp)
    rw [if_pos c12] at H
    have LMc12 := Aside0.mk c12
    clear c12
    obtain ⟨y272, hy272⟩ : ∃ y_ : List (S26), y_ = (x6_1 ++ [(⟨t265, t266⟩ : S26)]) := ⟨_, rfl⟩
    replace H : ((spec_l14Reading.f k1 t252 t269 t270 t265 t266).bind fun bt275 => (if x7_1.length < 17592186044416 then (spec_DrawWorstPins.l0 k1 y272 (x7_1 ++ [bt275.1]) (wrap64 (x8_1 - 1)) t252 bt275.2.1 bt275.2.2) else (none))) = some (r1, r2, r3) := by first | (rw [hy272]; with_reducible exact H) | (have H2_ := (Option.bind_some _ _).symm.trans H; rw [hy272]; with_reducible exact H2_) | (have H2_ := (Option.bind_some _ _).symm.trans H; with_reducible exact H2_) | with_reducible exact H | (rw [hy272]; exact H) | exact H
    have Ny272 := Aside0.mk hy272
    clear hy272
    replace H := Option.bind_eq_some_iff.mp H
    obtain ⟨⟨t275, t276, t277⟩, A130, H⟩ := H
    replace H : (if x7_1.length < 17592186044416 then (spec_DrawWorstPins.l0 k1 y272 (x7_1 ++ [t275]) (wrap64 (x8_1 - 1)) t252 t276 t277) else (none)) = some (r1, r2, r3) := H
    have A13 := Aside0.mk A130
    clear A130
    by_cases c14 : x7_1.length < 17592186044416
    case neg =>
     rw [if_neg c14] at H
     exact absurd H (by simp)
    rw [if_pos c14] at H
    have LMc14 := Aside0.mk c14
    clear c14
    obtain ⟨y278, hy278⟩ : ∃ y_ : List Int, y_ = (x7_1 ++ [t275]) := ⟨_, rfl⟩
    replace H : (spec_DrawWorstPins.l0 k1 y272 y278 (wrap64 (x8_1 - 1)) t252 t276 t277) = some (r1, r2, r3) := by first | (rw [hy278]; with_reducible exact H) | (have H2_ := (Option.bind_some _ _).symm.trans H; rw [hy278]; with_reducible exact H2_) | (have H2_ := (Option.bind_some _ _).symm.trans H; with_reducible exact H2_) | with_reducible exact H | (rw [hy278]; exact H) | exact H
    have Ny278 := Aside0.mk hy278
    clear hy278
    have H' := Aside0.mk H
    clear H
    go_wp2_with (first | ((with_reducible refine gate_callee (f := 97) rfl ?_); refine goesL_ (some 22) rfl rfl Try.func97 (by kernel_rfl) rfl #[.pointer (some ⟨g255, 0, none⟩)] rfl ag_ ?_; (with_reducible refine (spec_l14Draw.calls k1 g255 t252 x256001_1 x256002_1 t265 t266 t269 t270 w _ ?side1 ?side2 A11.out).mono ?_); (case side1 => exact r3_ HI255.out); (case side2 => exact r7_ HB.out HI255.out); rintro e w15 ⟨v267, rfl, ho0, hi, hb, hk⟩; refine ⟨_, rfl, ?_⟩; replace HO_6 := Aside0.mk (Kd.S_mono (Kd.S_told (Kd.S_oldK (IsS183.apartS (show IsS183 w _ g255 t252 x256001_1 x256002_1 from r3_ HI255.out) (by (with_reducible repeat (first | apply Kd.S_alloc | apply Kd.S_drewN | apply Kd.S_drew)); exact HO_6.out) (by decide)) hk) (Kd.R_base ho0)) (fun _ h_ => h_.1)); have HO268 := Aside0.mk (Kd.R_lower (Kd.R_new' ho0 (Kd.R_lt (rk_ HO_7.out))) (below_size (r7_ HB.out HI255.out))); replace HO_7 := Aside0.mk (Kd.R_mono (Kd.R_told (Kd.R_oldK (IsS183.apart (show IsS183 w _ g255 t252 x256001_1 x256002_1 from r3_ HI255.out) (rk_ HO_7.out) (by decide)) hk) (Kd.R_base ho0)) (fun _ h_ => h_.1)); replace HB := Aside0.mk (hb); replace HI255 := Aside0.mk (hi); (try clear hb); (try clear hb2); (try clear hk); (try clear hi); (try clear ho0)) | ((with_reducible refine gate_dst (N := 9) rfl ?_); refine box_event ?hg (N := 9) ?hd (cs := #[.int .i64 0, .slice none 0 0]) (t := 26) ?hr ?_; (case hd => rfl); (case hg => rfl); (case hr => first | (go_simp; done) | (go_simp; rfl)); intro gb271 hg w16 hbox hb; replace HO_6 := Aside0.mk (Kd.S_below (Kd.S_elderB (by (with_reducible repeat (first | apply Kd.S_alloc | apply Kd.S_drewN | apply Kd.S_drew)); exact HO_6.out) gb271 (Nat.le_of_eq hg.symm)) hb); replace HO_7 := Aside0.mk (Kd.R_below (rk_ HO_7.out) hb); replace HO268 := Aside0.mk (Kd.R_below (rk_ HO268.out) hb); have BK271 := Aside0.mk (hbox); have GW271 := Aside0.mk ((by rw [hg]; exact (below_size (r7_ HB.out HI255.out)) : w.heap.size ≤ gb271)); have GE271 := Aside0.mk ((by rw [hg]; exact (below_size (r7_ HB.out HI255.out)) : w.heap.size ≤ gb271)); replace HB := Aside0.mk (below_step (r7_ HB.out HI255.out) hb); have NB255_271 := Aside0.mk ((by rw [hg]; exact Nat.ne_of_lt (IsS183.lt (show IsS183 w _ g255 t252 t269 t270 from r3_ HI255.out)) : g255 ≠ gb271)); have NB271_255 := Aside0.mk ((by rw [hg]; exact Nat.ne_of_gt (IsS183.lt (show IsS183 w _ g255 t252 t269 t270 from r3_ HI255.out)) : gb271 ≠ g255)); replace HI255 := Aside0.mk (IsS183.below (r3_ HI255.out) hb); clear hb hbox hg; have hnb17 := NB271_255.out; have hnc17 := NB255_271.out; have hcz18_0 : w16.cell? ⟨gb271, 0, none⟩ = some (.int .i64 0) := (blk_cell BK271.out 0).trans rfl; have hcz18_1 : w16.cell? ⟨gb271, 1, none⟩ = some (.slice none 0 0) := (blk_cell BK271.out 1).trans rfl; have hfz18_0 := blk_frozen BK271.out 0; have hfz18_1 := blk_frozen BK271.out 1; obtain ⟨Ao19, co19, eo19⟩ := Kd.R_slice HO268.out; subst eo19) | ((with_reducible refine gate_store (t := 26) (p := 9) rfl ?_); refine store_event (t := 26) (p := 9) (v := ?vo_w20) (w1 := ((w16.setCell ⟨gb271, 0, none⟩ (.int .i64 t265)).setCell ⟨gb271, 1, none⟩ (.slice Ao19 t266.length co19))) ?hg ?ho ?hn ?hr ?_; (case ho => rfl); (case hg => rfl); (case hn => rfl); (case hr => first | (go_simp; done) | (go_simp; rfl)); intro w20 hw; have n0_ : Aside0 (Kd.S k26 26 w20 w.heap.size (fun k_ => some k_ ≠ (u7 : Value).ownBlock ∧ some k_ ≠ (.slice Ao19 t266.length co19 : Value).ownBlock ∧ k_ ≠ gb271) u6 x6_1) := ⟨(by rw [hw]; exact (by (with_reducible repeat (first | apply Kd.S_alloc | apply Kd.S_drewN | apply Kd.S_drew)); exact Kd.S_mono (Kd.S_far (p := ⟨gb271, 1, none⟩) (Kd.S_far (p := ⟨gb271, 0, none⟩) (Kd.S_mono HO_6.out (fun k_ hk => (⟨hk, hk.2⟩ : _ ∧ k_ ≠ gb271))) (fun _ hk => hk.2) (.int .i64 t265)) (fun _ hk => hk.2) (.slice Ao19 t266.length co19)) (fun _ hk => ⟨hk.1.1.1, ⟨hk.1.1.2, hk.1.2⟩⟩)))⟩; have n1_ : Aside0 (Kd.R (Kd.int .i64) 2 w20 w.heap.size (fun k_ => some k_ ≠ (.slice Ao19 t266.length co19 : Value).ownBlock) u7 x7_1) := ⟨(by rw [hw]; exact (rk_ (Kd.R_mono (Kd.R_far (p := ⟨gb271, 1, none⟩) (Kd.R_far (p := ⟨gb271, 0, none⟩) (Kd.R_types HO_7.out BK271.out (by decide)) (fun _ hk => hk.2) (.int .i64 t265)) (fun _ hk => hk.2) (.slice Ao19 t266.length co19)) (fun _ hk => hk.1.2))))⟩; have n2_ : Aside0 (Kd.R (Kd.int .i64) 2 w20 w.heap.size (fun k_ => some k_ ≠ (u7 : Value).ownBlock) (.slice Ao19 t266.length co19) t266) := ⟨(by rw [hw]; exact (rk_ (Kd.R_mono (Kd.R_far (p := ⟨gb271, 1, none⟩) (Kd.R_far (p := ⟨gb271, 0, none⟩) (Kd.R_types HO268.out BK271.out (by decide)) (fun _ hk => hk.2) (.int .i64 t265)) (fun _ hk => hk.2) (.slice Ao19 t266.length co19)) (fun _ hk => hk.1.2))))⟩; have n3_ : Aside0 (w20.heap[gb271]? = some (.cells #[.int .i64 t265, .slice Ao19 t266.length co19] 26 (0, 0))) := ⟨(by rw [hw]; exact (by (with_reducible repeat (first | refine blk_drewN ?_ _ | refine blk_drew ?_ | refine blk_alloc ?_ _)); refine blk_put (cs := #[.int .i64 t265, .slice none 0 0]) ?_ 1 _ rfl; (with_reducible repeat (first | refine blk_drewN ?_ _ | refine blk_drew ?_ | refine blk_alloc ?_ _)); refine blk_put (cs := #[.int .i64 0, .slice none 0 0]) ?_ 0 _ rfl; (with_reducible repeat (first | refine blk_drewN ?_ _ | refine blk_drew ?_ | refine blk_alloc ?_ _)); exact BK271.out))⟩; have n4_ : Aside0 (IsS183 w w20 g255 t252 t269 t270) := ⟨(by rw [hw]; exact (r2_ HI255.out NB255_271.out))⟩; have n5_ : Aside0 (Below w.heap.size w w20) := ⟨(by rw [hw]; exact (r5_ HB.out HI255.out GE271.out))⟩; clear hw; clear HO_6; clear HO_7; clear HO268; clear BK271; clear HI255; clear HB; have HO_6 := n0_; have HO_7 := n1_; have HO268 := n2_; have BK271 := n3_; have HI255 := n4_; have HB := n5_; clear n0_ n1_ n2_ n3_ n4_ n5_; have hcz21_0 : w20.cell? ⟨gb271, 0, none⟩ = some (.int .i64 t265) := (blk_cell BK271.out 0).trans rfl; have hcz21_1 : w20.cell? ⟨gb271, 1, none⟩ = some (.slice Ao19 t266.length co19) := (blk_cell BK271.out 1).trans rfl; have hfz21_0 := blk_frozen BK271.out 0; have hfz21_1 := blk_frozen BK271.out 1) | ((with_reducible refine gate_builtin (b := .append) (xs := #[.tmp 23, .tmp 25]) rfl ?_); at_builtin; refine Kd.S_append k26 (w0 := w) w.heap.size rfl (.tmp 23) (.tmp 25) 32 26 (.agg #[(.int .i64 0), (.slice none 0 0)]) 32 rfl Try.underlying32 info26 rfl (by decide) (by omega) u6 x6_1 (⟨t265, t266⟩ : S26) [.int .i64 t265, .slice Ao19 t266.length co19] (fun k_ => some k_ ≠ (u7 : Value).ownBlock ∧ k_ ≠ gb271) (fun k_ => some k_ = (.slice Ao19 t266.length co19 : Value).ownBlock) rfl rfl ?aP (fun k_ hk_ => ((Kd.R_mono (ok' := fun k_ => ((fun k_ => some k_ ≠ (u7 : Value).ownBlock ∧ k_ ≠ gb271)) k_ ∧ some k_ ≠ (u6 : Value).ownBlock) (Kd.R_types (Kd.R_apart' (HO268.out) (Kd.S_typed HO_6.out) (by decide)) BK271.out (by decide)) (fun k_ hk => ⟨⟨hk.1.1, hk.2⟩, hk.1.2⟩))).1 k_ hk_.symm) ?aF ?aO ?aB ?aS ?aL ?_; (case aP => exact k26_mkM _ _ _ (⟨t265, t266⟩ : S26) (Kd.R_mono (Kd.R_tight rfl (Kd.R_mono (ok' := fun k_ => ((fun k_ => some k_ ≠ (u7 : Value).ownBlock ∧ k_ ≠ gb271)) k_ ∧ some k_ ≠ (u6 : Value).ownBlock) (Kd.R_types (Kd.R_apart' (HO268.out) (Kd.S_typed HO_6.out) (by decide)) BK271.out (by decide)) (fun k_ hk => ⟨⟨hk.1.1, hk.2⟩, hk.1.2⟩))) (fun _ h_ => h_))); (case aB => exact (r5_ HB.out HI255.out GE271.out)); (case aF => exact (fun k_ hk => ⟨Kd.fresh' (Kd.R_lt (rk_ HO_7.out)) k_ hk, Kd.freshB (g := gb271) (o := .cells #[.int .i64 t265, .slice Ao19 t266.length co19] 26 (0, 0)) (r0_ BK271.out) k_ hk⟩)); (case aO => exact (by (with_reducible repeat (first | apply Kd.S_alloc | apply Kd.S_drewN | apply Kd.S_drew)); exact Kd.S_mono HO_6.out (fun k_ hk => ⟨⟨hk.1, hk.2.2⟩, fun e_ => hk.2.1 e_⟩))); (case aS => exact (below_size (r5_ HB.out HI255.out GE271.out))); (case aL => have := LMc12.out; omega); intro v273 w22 ho hb hg hat; rw [← Ny272.out] at ho; have n0_ := Aside0.mk (Kd.R_over' (rk_ HO_7.out) (Kd.S_typed (by (with_reducible repeat (first | apply Kd.S_alloc | apply Kd.S_drewN | apply Kd.S_drew)); exact HO_6.out)) (by decide) hg); have n1_ := Aside0.mk (IsS183.grown (r2_ HI255.out NB255_271.out) hg (IsS183.own_neS HI255.out HO_6.out (by decide))); have n2_ := Aside0.mk (blk_grown (g := gb271) (o := .cells #[.int .i64 t265, .slice Ao19 t266.length co19] 26 (0, 0)) (r0_ BK271.out) hg (Kd.S_away HO_6.out (fun _ hk => hk.2.2))); have n3_ := Aside0.mk (hb); have n4_ := Aside0.mk (ho); have nx_ := Aside0.mk (Kd.R_over' (rk_ HO268.out) (Kd.S_typed (by (with_reducible repeat (first | apply Kd.S_alloc | apply Kd.S_drewN | apply Kd.S_drew)); exact HO_6.out)) (by decide) hg); clear HO_7; clear HI255; clear BK271; clear HB; clear HO_6; clear HO268; have HO268 := nx_; clear nx_; have HO_7 := n0_; have HI255 := n1_; have BK271 := n2_; have HB := n3_; have HO274 := n4_; clear n0_ n1_ n2_ n3_ n4_; clear ho hb hg hat; have hcz23_0 : w22.cell? ⟨gb271, 0, none⟩ = some (.int .i64 t265) := (blk_cell BK271.out 0).trans rfl; have hcz23_1 : w22.cell? ⟨gb271, 1, none⟩ = some (.slice Ao19 t266.length co19) := (blk_cell BK271.out 1).trans rfl; have hfz23_0 := blk_frozen BK271.out 0; have hfz23_1 := blk_frozen BK271.out 1) | ((with_reducible refine gate_callee (f := 98) rfl ?_); refine goesL_ (some 30) rfl rfl Try.func98 (by kernel_rfl) rfl #[.pointer (some ⟨g255, 0, none⟩), .agg #[.int .i64 t265, .slice Ao19 t266.length co19]] rfl ag_ ?_; (with_reducible refine (spec_l14Reading.calls k1 g255 t252 t269 t270 t265 _ _ t266 t275 t276 t277 w _ ?side1 ?side2 ?side3 ?side4 ?side5 A13.out).mono ?_); (case side1 => exact r2_ HI255.out NB255_271.out); (case side2 => exact r5_ HB.out HI255.out GE271.out); (case side3 => exact r11_ HO268.out); (case side4 => exact (Kd.R_reads' HO268.out).2.1); (case side5 => exact far_slice (IsS183.own_ne HI255.out HO268.out (by decide))); rintro e w24 ⟨rfl, hi, hb, hk⟩; refine ⟨_, rfl, ?_⟩; replace HO_7 := Aside0.mk (Kd.R_mono (Kd.R_keep (IsS183.apart (show IsS183 w _ g255 t252 t269 t270 from r2_ HI255.out NB255_271.out) (rk_ HO_7.out) (by decide)) hk (fun _ h => h.2)) (fun _ h => h.1)); replace BK271 := Aside0.mk (KeepBut.blk hk (g' := gb271) (o := .cells #[.int .i64 t265, .slice Ao19 t266.length co19] 26 (0, 0)) (r0_ BK271.out) NB271_255.out (by simp)); replace HO274 := Aside0.mk (Kd.S_mono (Kd.S_keep (IsS183.apartS (show IsS183 w _ g255 t252 t269 t270 from r2_ HI255.out NB255_271.out) (by (with_reducible repeat (first | apply Kd.S_alloc | apply Kd.S_drewN | apply Kd.S_drew)); exact HO274.out) (by decide)) hk (fun _ h => h.2)) (fun _ h => h.1)); replace HB := Aside0.mk (hb); replace HI255 := Aside0.mk (hi); (try clear hb); (try clear hb2); (try clear hk); (try clear hi)) | ((with_reducible refine gate_builtin (b := .append) (xs := #[.tmp 27, .tmp 31]) rfl ?_); at_builtin; refine Kd.R_append (Kd.int .i64) (w0 := w) w.heap.size rfl (.tmp 27) (.tmp 31) 24 2 (.int .i64 0) 8 rfl Try.underlying24 info2 rfl (by decide) (by omega) u7 x7_1 t275 [.int .i64 t275] (fun _ => True) (fun _ => False) rfl rfl ?aP (fun _ hk => hk.elim) ?aF ?aO ?aB ?aS ?aL ?_; (case aP => exact rfl); (case aB => exact (r5_ HB.out HI255.out GE271.out)); (case aF => exact (fun _ _ => trivial)); (case aO => exact (rk_ (Kd.R_mono HO_7.out (fun _ hk => trivial)))); (case aS => exact (below_size (r5_ HB.out HI255.out GE271.out))); (case aL => have := LMc14.out; omega); intro v279 w25 ho hb hg hat; rw [← Ny278.out] at ho; have n0_ := Aside0.mk (IsS183.grown (r2_ HI255.out NB255_271.out) hg (IsS183.own_ne HI255.out HO_7.out (by decide))); have n1_ := Aside0.mk (blk_grown (g := gb271) (o := .cells #[.int .i64 t265, .slice Ao19 t266.length co19] 26 (0, 0)) (r0_ BK271.out) hg (Kd.R_ne HO_7.out BK271.out (by decide))); have n2_ := Aside0.mk (Kd.S_after (ok := (fun k_ => k_ ≠ gb271)) (by (with_reducible repeat (first | apply Kd.S_alloc | apply Kd.S_drewN | apply Kd.S_drew)); exact Kd.S_mono HO274.out (fun _ hk => ⟨hk.2, hk.1⟩)) hg hat); have n3_ := Aside0.mk (hb); have n4_ := Aside0.mk (ho); clear HI255; clear BK271; clear HO274; clear HB; clear HO_7; have HI255 := n0_; have BK271 := n1_; have HO274 := n2_; have HB := n3_; have HO280 := n4_; clear n0_ n1_ n2_ n3_ n4_; clear ho hb hg hat))
    go_roundg k1
    case measure => have := HK1.out; omega
    case rel => exact ⟨(y272), (y278), (wrap64 (x8_1 - 1)), (t276), (t277), (by first | rfl | (simp; done) | (simp [*]; done)), H', ⟨by have := HK1.out; omega⟩, ⟨by (with_reducible repeat (first | apply Kd.S_alloc | apply Kd.S_drewN | apply Kd.S_drew)); exact Kd.S_mono HO274.out (fun _ hk => hk.2)⟩, ⟨rk_ HO280.out⟩, ⟨r2_ HI255.out NB255_271.out⟩, ⟨r5_ HB.out HI255.out GE271.out⟩⟩
   ·rw [if_neg c10] at H
    have c10b0 : decide (0 < x8_1) = false := decide_eq_false c10
    clear c10
    replace H := Option.bind_eq_some_iff.mp H
    obtain ⟨⟨t281, t282, t283⟩, A260, H⟩ := H
    replace H : (if t281 = 0 then (if x7_1.length < 17592186044416 then ((spec_l01Pick.f t252 t282 t283 (([10, 5, 100, 0, 101] : List Int))).bind fun bt290 => (some (x6_1, (x7_1 ++ [1]), bt290.1))) else (none)) else (if t281 = 1 then ((spec_l14Good.f k1 t252 t282 t283).bind fun bt293 => (spec_DrawWorstPins.l1 k1 x6_1 x7_1 t252 bt293.2.2.1 bt293.2.2.2 bt293.1 bt293.2.1)) else ((spec_l01Pick.f t252 t282 t283 (([10, 5, 100, 0, 101] : List Int))).bind fun bt324 => (some (x6_1, x7_1, bt324.1))))) = some (r1, r2, r3) := H
    have A26 := Aside0.mk A260
    clear A260
    by_cases c27 : t281 = 0
    ·rw [if_pos c27] at H
     have c27b0 : (t281 == 0) = true := beq_iff_eq.mpr c27
     have c27b1 : (t281 != 0) = false := bne_eq_false_iff_eq.mpr c27
     clear c27
     by_cases c28 : x7_1.length < 17592186044416
     case neg =>
      rw [if_neg c28] at H
      exact absurd H (by simp)
     rw [if_pos c28] at H
     have LMc28 := Aside0.mk c28
     clear c28
     obtain ⟨y284, hy284⟩ : ∃ y_ : List Int, y_ = (x7_1 ++ [1]) := ⟨_, rfl⟩
     replace H : ((spec_l01Pick.f t252 t282 t283 (([10, 5, 100, 0, 101] : List Int))).bind fun bt290 => (some (x6_1, y284, bt290.1))) = some (r1, r2, r3) := by first | (rw [hy284]; with_reducible exact H) | (have H2_ := (Option.bind_some _ _).symm.trans H; rw [hy284]; with_reducible exact H2_) | (have H2_ := (Option.bind_some _ _).symm.trans H; with_reducible exact H2_) | with_reducible exact H | (rw [hy284]; exact H) | exact H
     have Ny284 := Aside0.mk hy284
     clear hy284
     obtain ⟨y287, hy287⟩ : ∃ y_ : List Int, y_ = (([10, 5, 100, 0, 101] : List Int)) := ⟨_, rfl⟩
     replace H : ((spec_l01Pick.f t252 t282 t283 y287).bind fun bt290 => (some (x6_1, y284, bt290.1))) = some (r1, r2, r3) := by first | (rw [hy287]; with_reducible exact H) | (have H2_ := (Option.bind_some _ _).symm.trans H; rw [hy287]; with_reducible exact H2_) | (have H2_ := (Option.bind_some _ _).symm.trans H; with_reducible exact H2_) | with_reducible exact H | (rw [hy287]; exact H) | exact H
     have Ny287 := Aside0.mk hy287
     clear hy287
     replace H := Option.bind_eq_some_iff.mp H
     obtain ⟨⟨t290, t291, t292⟩, A290, H⟩ := H
     replace H : (some (x6_1, y284, t290)) = some (r1, r2, r3) := H
     have A29 := Aside0.mk A290
     clear A290
     simp only [Option.some.injEq, Prod.mk.injEq] at H
     obtain ⟨rfl, rfl, rfl⟩ := H
     go_wp2_with (first | ((with_reducible refine gate_callee (f := 108) rfl ?_); refine goesL_ (some 34) rfl rfl Try.func108 (by kernel_rfl) rfl #[.pointer (some ⟨g255, 0, none⟩), .int .i64 24] rfl ag_ ?_; (with_reducible refine (spec_l01Next.calls g255 t252 x256001_1 x256002_1 24 t281 t282 t283 w _ ?side1 ?side2 A26.out).mono ?_); (case side1 => exact r3_ HI255.out); (case side2 => exact r7_ HB.out HI255.out); rintro e w30 ⟨rfl, hi, hb, hk⟩; refine ⟨_, rfl, ?_⟩; replace HO_6 := Aside0.mk (Kd.S_mono (Kd.S_keep (IsS183.apartS (show IsS183 w _ g255 t252 x256001_1 x256002_1 from r3_ HI255.out) (by (with_reducible repeat (first | apply Kd.S_alloc | apply Kd.S_drewN | apply Kd.S_drew)); exact HO_6.out) (by decide)) hk (fun _ h => h.2)) (fun _ h => h.1)); replace HO_7 := Aside0.mk (Kd.R_mono (Kd.R_keep (IsS183.apart (show IsS183 w _ g255 t252 x256001_1 x256002_1 from r3_ HI255.out) (rk_ HO_7.out) (by decide)) hk (fun _ h => h.2)) (fun _ h => h.1)); replace HB := Aside0.mk (hb); replace HI255 := Aside0.mk (hi); (try clear hb); (try clear hb2); (try clear hk); (try clear hi)) | ((with_reducible refine gate_builtin (b := .append) (xs := #[.tmp 37, .tmp 38]) rfl ?_); at_builtin; refine Kd.R_append (Kd.int .i64) (w0 := w) w.heap.size rfl (.tmp 37) (.tmp 38) 24 2 (.int .i64 0) 8 rfl Try.underlying24 info2 rfl (by decide) (by omega) u7 x7_1 1 [.int .i64 1] (fun _ => True) (fun _ => False) rfl rfl ?aP (fun _ hk => hk.elim) ?aF ?aO ?aB ?aS ?aL ?_; (case aP => exact rfl); (case aB => exact (r7_ HB.out HI255.out)); (case aF => exact (fun _ _ => trivial)); (case aO => exact (rk_ HO_7.out)); (case aS => exact (below_size (r7_ HB.out HI255.out))); (case aL => have := LMc28.out; omega); intro v285 w31 ho hb hg hat; rw [← Ny284.out] at ho; have n0_ := Aside0.mk (Kd.S_after (ok := (fun _ => True)) (by (with_reducible repeat (first | apply Kd.S_alloc | apply Kd.S_drewN | apply Kd.S_drew)); exact Kd.S_mono HO_6.out (fun _ hk => ⟨trivial, hk⟩)) hg hat); have n1_ := Aside0.mk (IsS183.grown (r3_ HI255.out) hg (IsS183.own_ne HI255.out HO_7.out (by decide))); have n2_ := Aside0.mk (hb); have n3_ := Aside0.mk (ho); clear HO_6; clear HI255; clear HB; clear HO_7; have HO_6 := n0_; have HI255 := n1_; have HB := n2_; have HO286 := n3_; clear n0_ n1_ n2_ n3_; clear ho hb hg hat) | ((with_reducible refine gate_dst (N := 60) rfl ?_); refine Kd.R_lit (Kd.int .i64) _ 2 ?hg (N := 60) ?hd (xs := ([10, 5, 100, 0, 101] : List Int)) (inner := [.int .i64 10, .int .i64 5, .int .i64 100, .int .i64 0, .int .i64 101]) (ok := fun _ => True) (okp := fun _ => True) ?hr ?hp (fun _ hk => hk) trivial (Below.refl _ _) (Nat.le_refl _) (by simp) ?_; (case hd => rfl); (case hg => rfl); (case hr => first | (go_simp; done) | (go_simp; rfl)); (case hp => exact (Reps.one (show Kd.M (Kd.int .i64) _ _ _ 10 [.int .i64 10] from rfl) (Reps.one (show Kd.M (Kd.int .i64) _ _ _ 5 [.int .i64 5] from rfl) (Reps.one (show Kd.M (Kd.int .i64) _ _ _ 100 [.int .i64 100] from rfl) (Reps.one (show Kd.M (Kd.int .i64) _ _ _ 0 [.int .i64 0] from rfl) (Reps.one (show Kd.M (Kd.int .i64) _ _ _ 101 [.int .i64 101] from rfl) (Reps.none _ _))))))); intro v288 w32 ho33 hb hg_ hnew_; clear hg_ hnew_; (first | rw [← Ny287.out] at ho33 | (simp only [Int.reduceToNat] at ho33; rw [← Ny287.out] at ho33)); replace HO_6 := Aside0.mk (Kd.S_elder' (by (with_reducible repeat (first | apply Kd.S_alloc | apply Kd.S_drewN | apply Kd.S_drew)); exact HO_6.out) (Kd.R_base ho33) hb); have HO289 := Aside0.mk (Kd.R_lower (Kd.R_new' ho33 (Kd.R_lt (rk_ HO286.out))) (below_size (r7_ HB.out HI255.out))); replace HO286 := Aside0.mk (Kd.R_elder' (rk_ HO286.out) (Kd.R_base ho33) hb); replace HB := Aside0.mk (below_step (r7_ HB.out HI255.out) hb); replace HI255 := Aside0.mk (IsS183.below (r3_ HI255.out) hb); clear hb ho33; obtain ⟨Ao34, co34, eo34⟩ := Kd.R_slice HO289.out; subst eo34) | ((with_reducible refine gate_callee (f := 99) rfl ?_); refine goesL_ (some 61) rfl rfl Try.func99 (by kernel_rfl) rfl #[.pointer (some ⟨g255, 0, none⟩), .slice Ao34 y287.length co34] rfl ag_ ?_; (with_reducible refine (spec_l01Pick.calls g255 t252 t282 t283 _ _ y287 t290 t291 t292 w _ ?side1 ?side2 ?side3 ?side4 ?side5 A29.out).mono ?_); (case side1 => exact r3_ HI255.out); (case side2 => exact r7_ HB.out HI255.out); (case side3 => exact r11_ HO289.out); (case side4 => exact (Kd.R_reads' HO289.out).2.1); (case side5 => exact far_slice (IsS183.own_ne HI255.out HO289.out (by decide))); rintro e w35 ⟨rfl, hi, hb, hk⟩; refine ⟨_, rfl, ?_⟩; replace HO_6 := Aside0.mk (Kd.S_mono (Kd.S_keep (IsS183.apartS (show IsS183 w _ g255 t252 t282 t283 from r3_ HI255.out) (by (with_reducible repeat (first | apply Kd.S_alloc | apply Kd.S_drewN | apply Kd.S_drew)); exact HO_6.out) (by decide)) hk (fun _ h => h.2)) (fun _ h => h.1)); replace HO286 := Aside0.mk (Kd.R_mono (Kd.R_keep (IsS183.apart (show IsS183 w _ g255 t252 t282 t283 from r3_ HI255.out) (rk_ HO286.out) (by decide)) hk (fun _ h => h.2)) (fun _ h => h.1)); replace HO289 := Aside0.mk (Kd.R_mono (Kd.R_keep (IsS183.apart (show IsS183 w _ g255 t252 t282 t283 from r3_ HI255.out) (rk_ HO289.out) (by decide)) hk (fun _ h => h.2)) (fun _ h => h.1)); replace HB := Aside0.mk (hb); replace HI255 := Aside0.mk (hi); (try clear hb); (try clear hb2); (try clear hk); (try clear hi)))
     go_ret3
     exact ⟨_, _, by first | rfl | (simp [errW_none, errW_some] <;> rfl) | (simp [*, errW_none, errW_some] <;> rfl), rk_ (Kd.R_mono (Kd.S_R HO_6.out) (fun _ hk => hk.1.2)), rk_ (Kd.R_mono HO286.out (fun _ hk => trivial)), r7_ HB.out HI255.out⟩
    ·rw [if_neg c27] at H
     have c27b0 : (t281 == 0) = false := beq_eq_false_iff_ne.mpr c27
     have c27b1 : (t281 != 0) = true := bne_iff_ne.mpr c27
     by_cases c36 : t281 = 1
     ·rw [if_pos c36] at H
      have c36b0 : (t281 == 1) = true := beq_iff_eq.mpr c36
      have c36b1 : (t281 != 1) = false := bne_eq_false_iff_eq.mpr c36
      clear c36
      replace H := Option.bind_eq_some_iff.mp H
      obtain ⟨⟨t293, t294, t297, t298⟩, A370, H⟩ := H
      replace H : (spec_DrawWorstPins.l1 k1 x6_1 x7_1 t252 t297 t298 t293 t294) = some (r1, r2, r3) := H
      have A37 := Aside0.mk A370
      clear A370
      have H' := Aside0.mk H
      clear H
      go_wp2_with (first | ((with_reducible refine gate_callee (f := 108) rfl ?_); refine goesL_ (some 34) rfl rfl Try.func108 (by kernel_rfl) rfl #[.pointer (some ⟨g255, 0, none⟩), .int .i64 24] rfl ag_ ?_; (with_reducible refine (spec_l01Next.calls g255 t252 x256001_1 x256002_1 24 t281 t282 t283 w _ ?side1 ?side2 A26.out).mono ?_); (case side1 => exact r3_ HI255.out); (case side2 => exact r7_ HB.out HI255.out); rintro e w38 ⟨rfl, hi, hb, hk⟩; refine ⟨_, rfl, ?_⟩; replace HO_6 := Aside0.mk (Kd.S_mono (Kd.S_keep (IsS183.apartS (show IsS183 w _ g255 t252 x256001_1 x256002_1 from r3_ HI255.out) (by (with_reducible repeat (first | apply Kd.S_alloc | apply Kd.S_drewN | apply Kd.S_drew)); exact HO_6.out) (by decide)) hk (fun _ h => h.2)) (fun _ h => h.1)); replace HO_7 := Aside0.mk (Kd.R_mono (Kd.R_keep (IsS183.apart (show IsS183 w _ g255 t252 x256001_1 x256002_1 from r3_ HI255.out) (rk_ HO_7.out) (by decide)) hk (fun _ h => h.2)) (fun _ h => h.1)); replace HB := Aside0.mk (hb); replace HI255 := Aside0.mk (hi); (try clear hb); (try clear hb2); (try clear hk); (try clear hi)) | ((with_reducible refine gate_callee (f := 109) rfl ?_); refine goesL_ (some 43) rfl rfl Try.func109 (by kernel_rfl) rfl #[.pointer (some ⟨g255, 0, none⟩)] rfl ag_ ?_; (with_reducible refine (spec_l14Good.calls k1 g255 t252 t282 t283 t293 t294 t297 t298 w _ ?side1 ?side2 A37.out).mono ?_); (case side1 => exact r3_ HI255.out); (case side2 => exact r7_ HB.out HI255.out); rintro e w39 ⟨v295, rfl, ho0, hi, hb, hk⟩; refine ⟨_, rfl, ?_⟩; replace HO_6 := Aside0.mk (Kd.S_mono (Kd.S_told (Kd.S_oldK (IsS183.apartS (show IsS183 w _ g255 t252 t282 t283 from r3_ HI255.out) (by (with_reducible repeat (first | apply Kd.S_alloc | apply Kd.S_drewN | apply Kd.S_drew)); exact HO_6.out) (by decide)) hk) (Kd.R_base ho0)) (fun _ h_ => h_.1)); have HO296 := Aside0.mk (Kd.R_lower (Kd.R_new' ho0 (Kd.R_lt (rk_ HO_7.out))) (below_size (r7_ HB.out HI255.out))); replace HO_7 := Aside0.mk (Kd.R_mono (Kd.R_told (Kd.R_oldK (IsS183.apart (show IsS183 w _ g255 t252 t282 t283 from r3_ HI255.out) (rk_ HO_7.out) (by decide)) hk) (Kd.R_base ho0)) (fun _ h_ => h_.1)); replace HB := Aside0.mk (hb); replace HI255 := Aside0.mk (hi); (try clear hb); (try clear hb2); (try clear hk); (try clear hi); (try clear ho0)) | ((with_reducible refine gate_dst (N := 10) rfl ?_); refine box_event ?hg (N := 10) ?hd (cs := #[.int .i64 0, .slice none 0 0]) (t := 26) ?hr ?_; (case hd => rfl); (case hg => rfl); (case hr => first | (go_simp; done) | (go_simp; rfl)); intro gb299 hg w40 hbox hb; replace HO_6 := Aside0.mk (Kd.S_below (Kd.S_elderB (by (with_reducible repeat (first | apply Kd.S_alloc | apply Kd.S_drewN | apply Kd.S_drew)); exact HO_6.out) gb299 (Nat.le_of_eq hg.symm)) hb); replace HO_7 := Aside0.mk (Kd.R_below (rk_ HO_7.out) hb); replace HO296 := Aside0.mk (Kd.R_below (rk_ HO296.out) hb); have BK299 := Aside0.mk (hbox); have GW299 := Aside0.mk ((by rw [hg]; exact (below_size (r7_ HB.out HI255.out)) : w.heap.size ≤ gb299)); have GE299 := Aside0.mk ((by rw [hg]; exact (below_size (r7_ HB.out HI255.out)) : w.heap.size ≤ gb299)); replace HB := Aside0.mk (below_step (r7_ HB.out HI255.out) hb); have NB255_299 := Aside0.mk ((by rw [hg]; exact Nat.ne_of_lt (IsS183.lt (show IsS183 w _ g255 t252 t297 t298 from r3_ HI255.out)) : g255 ≠ gb299)); have NB299_255 := Aside0.mk ((by rw [hg]; exact Nat.ne_of_gt (IsS183.lt (show IsS183 w _ g255 t252 t297 t298 from r3_ HI255.out)) : gb299 ≠ g255)); replace HI255 := Aside0.mk (IsS183.below (r3_ HI255.out) hb); clear hb hbox hg; have hnb41 := NB299_255.out; have hnc41 := NB255_299.out; have hcz42_0 : w40.cell? ⟨gb299, 0, none⟩ = some (.int .i64 0) := (blk_cell BK299.out 0).trans rfl; have hcz42_1 : w40.cell? ⟨gb299, 1, none⟩ = some (.slice none 0 0) := (blk_cell BK299.out 1).trans rfl; have hfz42_0 := blk_frozen BK299.out 0; have hfz42_1 := blk_frozen BK299.out 1; obtain ⟨Ao43, co43, eo43⟩ := Kd.R_slice HO296.out; subst eo43))
      go_loopg [6, 7] k1 (fun kq v6 v7 w' => ∃ (x6_2 : List (S26)) (x7_2 : List Int) (x256001_2 : Int) (x256002_2 : Int), Aside0 (spec_DrawWorstPins.l1 kq x6_2 x7_2 t252 x256001_2 x256002_2 t293 t294 = some (r1, r2, r3)) ∧ Aside0 (kq ≤ k1) ∧ Aside0 (Kd.R k26 26 w' w.heap.size (fun k_ => some k_ ≠ (v7 : Value).ownBlock ∧ k_ ≠ gb299) v6 x6_2) ∧ Aside0 (Kd.R (Kd.int .i64) 2 w' w.heap.size (fun k_ => some k_ ≠ ((.slice Ao43 t294.length co43) : Value).ownBlock) v7 x7_2) ∧ Aside0 (Kd.R (Kd.int .i64) 2 w' w.heap.size (fun k_ => some k_ ≠ (v7 : Value).ownBlock) (.slice Ao43 t294.length co43) t294) ∧ Aside0 (w'.heap[gb299]? = some (.cells #[.int .i64 t293, (.slice Ao43 t294.length co43)] 26 (0, 0))) ∧ Aside0 (IsS183 w w' g255 t252 x256001_2 x256002_2) ∧ Aside0 (Below w.heap.size w w'))
      case atStart => exact ⟨(x6_1), (x7_1), (t297), (t298), H', ⟨Nat.le_refl _⟩, ⟨rk_ (Kd.R_mono (Kd.R_far (p := ⟨gb299, 1, none⟩) (Kd.R_far (p := ⟨gb299, 0, none⟩) (Kd.R_mono (Kd.S_R HO_6.out) (fun k_ hk => (⟨hk, hk.2⟩ : _ ∧ k_ ≠ gb299))) (fun _ hk => hk.2) (.int .i64 t293)) (fun _ hk => hk.2) (.slice Ao43 t294.length co43)) (fun _ hk => ⟨hk.1.1.1, hk.1.2⟩))⟩, ⟨rk_ (Kd.R_mono (Kd.R_far (p := ⟨gb299, 1, none⟩) (Kd.R_far (p := ⟨gb299, 0, none⟩) (Kd.R_types HO_7.out BK299.out (by decide)) (fun _ hk => hk.2) (.int .i64 t293)) (fun _ hk => hk.2) (.slice Ao43 t294.length co43)) (fun _ hk => hk.1.2))⟩, ⟨rk_ (Kd.R_mono (Kd.R_far (p := ⟨gb299, 1, none⟩) (Kd.R_far (p := ⟨gb299, 0, none⟩) (Kd.R_types HO296.out BK299.out (by decide)) (fun _ hk => hk.2) (.int .i64 t293)) (fun _ hk => hk.2) (.slice Ao43 t294.length co43)) (fun _ hk => hk.1.2))⟩, ⟨by (with_reducible repeat (first | refine blk_drewN ?_ _ | refine blk_drew ?_ | refine blk_alloc ?_ _)); refine blk_put (cs := #[.int .i64 t293, .slice none 0 0]) ?_ 1 _ rfl; (with_reducible repeat (first | refine blk_drewN ?_ _ | refine blk_drew ?_ | refine blk_alloc ?_ _)); refine blk_put (cs := #[.int .i64 0, .slice none 0 0]) ?_ 0 _ rfl; (with_reducible repeat (first | refine blk_drewN ?_ _ | refine blk_drew ?_ | refine blk_alloc ?_ _)); exact BK299.out⟩, ⟨r2_ HI255.out NB255_299.out⟩, ⟨r5_ HB.out HI255.out GE299.out⟩⟩
      case round =>
       clear H'
       try clear c1
       try clear c2
       try clear p2
       try clear c3
       try clear c4
       try clear p6
       try clear c9
       try clear c10
       try clear c10b0
       try clear c12
       try clear c14
       try clear c17
       try clear c21
       try clear c27
       try clear c27b0
       try clear c27b1
       try clear c28
       try clear c36
       try clear c36b0
       try clear c36b1
       try clear c41
       try clear hcz18_0
       try clear hcz18_1
       try clear hcz21_0
       try clear hcz21_1
       try clear hcz23_0
       try clear hcz23_1
       try clear hcz42_0
       try clear hcz42_1
       try clear hfz18_0
       try clear hfz18_1
       try clear hfz21_0
       try clear hfz21_1
       try clear hfz23_0
       try clear hfz23_1
       try clear hfz42_0
       try clear hfz42_1
       try clear p2
       obtain ⟨x6_2, x7_2, x256001_2, x256002_2, HA, HK2, HO_6, HO_7, HO_300001, BK299, HI255, HB⟩ := hrel
       cases gk with
       | zero => exact absurd HA.out (by simp [spec_DrawWorstPins.l1])
       | succ k2 =>
        have H := HA.out
        clear HA
        simp only [spec_DrawWorstPins.l1] at H
        replace H := Option.bind_eq_some_iff.mp H
        obtain ⟨⟨t300, t301, t302⟩, A440, H⟩ := H
        replace H : (if (x6_2.length : Int) < (wrap64 (32 + t300)) then (if x6_2.length < 4398046511104 then (if x7_2.length < 17592186044416 then (spec_DrawWorstPins.l1 k2 (x6_2 ++ [(⟨t293, t294⟩ : S26)]) (x7_2 ++ [4000]) t252 t301 t302 t293 t294) else (none)) else (none)) else ((spec_l01Pick.f t252 t301 t302 (([10, 5, 100, 0, 101] : List Int))).bind fun bt318 => (some (x6_2, x7_2, bt318.1)))) = some (r1, r2, r3) := H
        have A44 := Aside0.mk A440
        clear A440
        by_cases c45 : (x6_2.length : Int) < (wrap64 (32 + t300))
        ·rw [if_pos c45] at H
         have c45b0 : decide ((x6_2.length : Int) < (wrap64 (32 + t300))) = true := decide_eq_true c45
         clear c45
         by_cases c47 : x6_2.length < 4398046511104
         case neg =>
          rw [if_neg c47] at H
          exact absurd H (by simp)
         rw [if_pos c47] at H
         have LMc47 := Aside0.mk c47
         clear c47
         obtain ⟨y309, hy309⟩ : ∃ y_ : List (S26), y_ = (x6_2 ++ [(⟨t293, t294⟩ : S26)]) := ⟨_, rfl⟩
         replace H : (if x7_2.length < 17592186044416 then (spec_DrawWorstPins.l1 k2 y309 (x7_2 ++ [4000]) t252 t301 t302 t293 t294) else (none)) = some (r1, r2, r3) := by first | (rw [hy309]; with_reducible exact H) | (have H2_ := (Option.bind_some _ _).symm.trans H; rw [hy309]; with_reducible exact H2_) | (have H2_ := (Option.bind_some _ _).symm.trans H; with_reducible exact H2_) | with_reducible exact H | (rw [hy309]; exact H) | exact H
         have Ny309 := Aside0.mk hy309
         clear hy309
         by_cases c48 : x7_2.length < 17592186044416
         case neg =>
          rw [if_neg c48] at H
          exact absurd H (by simp)
         rw [if_pos c48] at H
         have LMc48 := Aside0.mk c48
         clear c48
         obtain ⟨y312, hy312⟩ : ∃ y_ : List Int, y_ = (x7_2 ++ [4000]) := ⟨_, rfl⟩
         replace H : (spec_DrawWorstPins.l1 k2 y309 y312 t252 t301 t302 t293 t294) = some (r1, r2, r3) := by first | (rw [hy312]; with_reducible exact H) | (have H2_ := (Option.bind_some _ _).symm.trans H; rw [hy312]; with_reducible exact H2_) | (have H2_ := (Option.bind_some _ _).symm.trans H; with_reducible exact H2_) | with_reducible exact H | (rw [hy312]; exact H) | exact H
         have Ny312 := Aside0.mk hy312
         clear hy312
         have H' := Aside0.mk H
         clear H
         obtain ⟨Ao49, co49, eo49⟩ := Kd.R_slice HO_6.out
         subst eo49
         go_wp2_with (first | ((with_reducible refine gate_callee (f := 108) rfl ?_); refine goesL_ (some 47) rfl rfl Try.func108 (by kernel_rfl) rfl #[.pointer (some ⟨g255, 0, none⟩), .int .i64 2] rfl ag_ ?_; (with_reducible refine (spec_l01Next.calls g255 t252 x256001_2 x256002_2 2 t300 t301 t302 w _ ?side1 ?side2 A44.out).mono ?_); (case side1 => exact r2_ HI255.out NB255_299.out); (case side2 => exact r5_ HB.out HI255.out GE299.out); rintro e w50 ⟨rfl, hi, hb, hk⟩; refine ⟨_, rfl, ?_⟩; replace HO_6 := Aside0.mk (Kd.R_mono (Kd.R_keep (IsS183.apart (show IsS183 w _ g255 t252 x256001_2 x256002_2 from r2_ HI255.out NB255_299.out) (rk_ HO_6.out) (by decide)) hk (fun _ h => h.2)) (fun _ h => h.1)); replace HO_7 := Aside0.mk (Kd.R_mono (Kd.R_keep (IsS183.apart (show IsS183 w _ g255 t252 x256001_2 x256002_2 from r2_ HI255.out NB255_299.out) (rk_ HO_7.out) (by decide)) hk (fun _ h => h.2)) (fun _ h => h.1)); replace HO_300001 := Aside0.mk (Kd.R_mono (Kd.R_keep (IsS183.apart (show IsS183 w _ g255 t252 x256001_2 x256002_2 from r2_ HI255.out NB255_299.out) (rk_ HO_300001.out) (by decide)) hk (fun _ h => h.2)) (fun _ h => h.1)); replace BK299 := Aside0.mk (KeepBut.blk hk (g' := gb299) (o := .cells #[.int .i64 t293, .slice Ao43 t294.length co43] 26 (0, 0)) (r0_ BK299.out) NB299_255.out (by simp)); replace HB := Aside0.mk (hb); replace HI255 := Aside0.mk (hi); (try clear hb); (try clear hb2); (try clear hk); (try clear hi); have hnb51 := NB299_255.out; have hnc51 := NB255_299.out; have hcz52_0 : w50.cell? ⟨gb299, 0, none⟩ = some (.int .i64 t293) := (blk_cell BK299.out 0).trans rfl; have hcz52_1 : w50.cell? ⟨gb299, 1, none⟩ = some (.slice Ao43 t294.length co43) := (blk_cell BK299.out 1).trans rfl; have hfz52_0 := blk_frozen BK299.out 0; have hfz52_1 := blk_frozen BK299.out 1) | ((with_reducible refine gate_builtin (b := .append) (xs := #[.tmp 50, .tmp 52]) rfl ?_); at_builtin; refine Kd.R_append k26 (w0 := w) w.heap.size rfl (.tmp 50) (.tmp 52) 32 26 (.agg #[(.int .i64 0), (.slice none 0 0)]) 32 rfl Try.underlying32 info26 rfl (by decide) (by omega) (.slice Ao49 x6_2.length co49) x6_2 (⟨t293, t294⟩ : S26) [.int .i64 t293, .slice Ao43 t294.length co43] (fun k_ => some k_ ≠ (u7 : Value).ownBlock ∧ k_ ≠ gb299) (fun k_ => some k_ = (.slice Ao43 t294.length co43 : Value).ownBlock) rfl rfl ?aP (fun k_ hk_ => ((Kd.R_mono (ok' := fun k_ => ((fun k_ => some k_ ≠ (u7 : Value).ownBlock ∧ k_ ≠ gb299)) k_ ∧ some k_ ≠ (.slice Ao49 x6_2.length co49 : Value).ownBlock) (Kd.R_types (Kd.R_apart' (HO_300001.out) (Kd.R_typed HO_6.out) (by decide)) BK299.out (by decide)) (fun k_ hk => ⟨⟨hk.1.1, hk.2⟩, hk.1.2⟩))).1 k_ hk_.symm) ?aF ?aO ?aB ?aS ?aL ?_; (case aP => exact k26_mkM _ _ _ (⟨t293, t294⟩ : S26) (Kd.R_mono (Kd.R_tight rfl (Kd.R_mono (ok' := fun k_ => ((fun k_ => some k_ ≠ (u7 : Value).ownBlock ∧ k_ ≠ gb299)) k_ ∧ some k_ ≠ (.slice Ao49 x6_2.length co49 : Value).ownBlock) (Kd.R_types (Kd.R_apart' (HO_300001.out) (Kd.R_typed HO_6.out) (by decide)) BK299.out (by decide)) (fun k_ hk => ⟨⟨hk.1.1, hk.2⟩, hk.1.2⟩))) (fun _ h_ => h_))); (case aB => exact (r5_ HB.out HI255.out GE299.out)); (case aF => exact (fun k_ hk => ⟨Kd.fresh' (Kd.R_lt (rk_ HO_7.out)) k_ hk, Kd.freshB (g := gb299) (o := .cells #[.int .i64 t293, .slice Ao43 t294.length co43] 26 (0, 0)) (r0_ BK299.out) k_ hk⟩)); (case aO => exact (rk_ HO_6.out)); (case aS => exact (below_size (r5_ HB.out HI255.out GE299.out))); (case aL => have := LMc47.out; omega); intro v310 w57 ho hb hg hat; rw [← Ny309.out] at ho; have n0_ := Aside0.mk (Kd.R_over' (rk_ HO_7.out) (Kd.R_typed (rk_ HO_6.out)) (by decide) hg); have n1_ := Aside0.mk (Kd.R_over' (rk_ HO_300001.out) (Kd.R_typed (rk_ HO_6.out)) (by decide) hg); have n2_ := Aside0.mk (blk_grown (g := gb299) (o := .cells #[.int .i64 t293, .slice Ao43 t294.length co43] 26 (0, 0)) (r0_ BK299.out) hg (Kd.R_away HO_6.out (fun _ hk => hk.2))); have n3_ := Aside0.mk (IsS183.grown (r2_ HI255.out NB255_299.out) hg (IsS183.own_ne HI255.out HO_6.out (by decide))); have n4_ := Aside0.mk (hb); have n5_ := Aside0.mk (ho); clear HO_7; clear HO_300001; clear BK299; clear HI255; clear HB; clear HO_6; have HO_7 := n0_; have HO_300001 := n1_; have BK299 := n2_; have HI255 := n3_; have HB := n4_; have HO311 := n5_; clear n0_ n1_ n2_ n3_ n4_ n5_; clear ho hb hg hat) | ((with_reducible refine gate_builtin (b := .append) (xs := #[.tmp 54, .tmp 55]) rfl ?_); at_builtin; refine Kd.R_append (Kd.int .i64) (w0 := w) w.heap.size rfl (.tmp 54) (.tmp 55) 24 2 (.int .i64 0) 8 rfl Try.underlying24 info2 rfl (by decide) (by omega) u7 x7_2 4000 [.int .i64 4000] (fun k_ => some k_ ≠ (.slice Ao43 t294.length co43 : Value).ownBlock) (fun _ => False) rfl rfl ?aP (fun _ hk => hk.elim) ?aF ?aO ?aB ?aS ?aL ?_; (case aP => exact rfl); (case aB => exact (r5_ HB.out HI255.out GE299.out)); (case aF => exact (fun k_ hk => Kd.fresh' (Kd.R_lt (rk_ HO_300001.out)) k_ hk)); (case aO => exact (rk_ HO_7.out)); (case aS => exact (below_size (r5_ HB.out HI255.out GE299.out))); (case aL => have := LMc48.out; omega); intro v313 w58 ho hb hg hat; rw [← Ny312.out] at ho; have n0_ := Aside0.mk (Kd.R_after (ok := (fun _ => True)) (rk_ (Kd.R_mono HO_300001.out (fun _ hk => ⟨trivial, hk⟩))) hg hat); have n1_ := Aside0.mk (blk_grown (g := gb299) (o := .cells #[.int .i64 t293, .slice Ao43 t294.length co43] 26 (0, 0)) (r0_ BK299.out) hg (Kd.R_ne HO_7.out BK299.out (by decide))); have n2_ := Aside0.mk (IsS183.grown (r2_ HI255.out NB255_299.out) hg (IsS183.own_ne HI255.out HO_7.out (by decide))); have n3_ := Aside0.mk (Kd.R_after (ok := (fun k_ => k_ ≠ gb299)) (rk_ (Kd.R_mono HO311.out (fun _ hk => ⟨hk.2, hk.1⟩))) hg hat); have n4_ := Aside0.mk (hb); have n5_ := Aside0.mk (ho); clear HO_300001; clear BK299; clear HI255; clear HO311; clear HB; clear HO_7; have HO_300001 := n0_; have BK299 := n1_; have HI255 := n2_; have HO311 := n3_; have HB := n4_; have HO314 := n5_; clear n0_ n1_ n2_ n3_ n4_ n5_; clear ho hb hg hat))
         go_roundg k2
         case measure => have := HK1.out; have := HK2.out; omega
         case rel => exact ⟨(y309), (y312), (t301), (t302), H', ⟨by have := HK1.out; have := HK2.out; omega⟩, ⟨rk_ (Kd.R_mono HO311.out (fun _ hk => ⟨hk.2, hk.1⟩))⟩, ⟨rk_ HO314.out⟩, ⟨rk_ (Kd.R_mono HO_300001.out (fun _ hk => hk.2))⟩, ⟨r0_ BK299.out⟩, ⟨r2_ HI255.out NB255_299.out⟩, ⟨r5_ HB.out HI255.out GE299.out⟩⟩
        ·rw [if_neg c45] at H
         have c45b0 : decide ((x6_2.length : Int) < (wrap64 (32 + t300))) = false := decide_eq_false c45
         clear c45
         obtain ⟨y315, hy315⟩ : ∃ y_ : List Int, y_ = (([10, 5, 100, 0, 101] : List Int)) := ⟨_, rfl⟩
         replace H : ((spec_l01Pick.f t252 t301 t302 y315).bind fun bt318 => (some (x6_2, x7_2, bt318.1))) = some (r1, r2, r3) := by first | (rw [hy315]; with_reducible exact H) | (have H2_ := (Option.bind_some _ _).symm.trans H; rw [hy315]; with_reducible exact H2_) | (have H2_ := (Option.bind_some _ _).symm.trans H; with_reducible exact H2_) | with_reducible exact H | (rw [hy315]; exact H) | exact H
         have Ny315 := Aside0.mk hy315
         clear hy315
         replace H := Option.bind_eq_some_iff.mp H
         obtain ⟨⟨t318, t319, t320⟩, A590, H⟩ := H
         replace H : (some (x6_2, x7_2, t318)) = some (r1, r2, r3) := H
         have A59 := Aside0.mk A590
         clear A590
         simp only [Option.some.injEq, Prod.mk.injEq] at H
         obtain ⟨rfl, rfl, rfl⟩ := H
         obtain ⟨Ao60, co60, eo60⟩ := Kd.R_slice HO_6.out
         subst eo60
         go_wp2_with (first | ((with_reducible refine gate_callee (f := 108) rfl ?_); refine goesL_ (some 47) rfl rfl Try.func108 (by kernel_rfl) rfl #[.pointer (some ⟨g255, 0, none⟩), .int .i64 2] rfl ag_ ?_; (with_reducible refine (spec_l01Next.calls g255 t252 x256001_2 x256002_2 2 t300 t301 t302 w _ ?side1 ?side2 A44.out).mono ?_); (case side1 => exact r2_ HI255.out NB255_299.out); (case side2 => exact r5_ HB.out HI255.out GE299.out); rintro e w61 ⟨rfl, hi, hb, hk⟩; refine ⟨_, rfl, ?_⟩; replace HO_6 := Aside0.mk (Kd.R_mono (Kd.R_keep (IsS183.apart (show IsS183 w _ g255 t252 x256001_2 x256002_2 from r2_ HI255.out NB255_299.out) (rk_ HO_6.out) (by decide)) hk (fun _ h => h.2)) (fun _ h => h.1)); replace HO_7 := Aside0.mk (Kd.R_mono (Kd.R_keep (IsS183.apart (show IsS183 w _ g255 t252 x256001_2 x256002_2 from r2_ HI255.out NB255_299.out) (rk_ HO_7.out) (by decide)) hk (fun _ h => h.2)) (fun _ h => h.1)); replace HO_300001 := Aside0.mk (Kd.R_mono (Kd.R_keep (IsS183.apart (show IsS183 w _ g255 t252 x256001_2 x256002_2 from r2_ HI255.out NB255_299.out) (rk_ HO_300001.out) (by decide)) hk (fun _ h => h.2)) (fun _ h => h.1)); replace BK299 := Aside0.mk (KeepBut.blk hk (g' := gb299) (o := .cells #[.int .i64 t293, .slice Ao43 t294.length co43] 26 (0, 0)) (r0_ BK299.out) NB299_255.out (by simp)); replace HB := Aside0.mk (hb); replace HI255 := Aside0.mk (hi); (try clear hb); (try clear hb2); (try clear hk); (try clear hi)) | ((with_reducible refine gate_dst (N := 60) rfl ?_); refine Kd.R_lit (Kd.int .i64) _ 2 ?hg (N := 60) ?hd (xs := ([10, 5, 100, 0, 101] : List Int)) (inner := [.int .i64 10, .int .i64 5, .int .i64 100, .int .i64 0, .int .i64 101]) (ok := fun _ => True) (okp := fun _ => True) ?hr ?hp (fun _ hk => hk) trivial (Below.refl _ _) (Nat.le_refl _) (by simp) ?_; (case hd => rfl); (case hg => rfl); (case hr => first | (go_simp; done) | (go_simp; rfl)); (case hp => exact (Reps.one (show Kd.M (Kd.int .i64) _ _ _ 10 [.int .i64 10] from rfl) (Reps.one (show Kd.M (Kd.int .i64) _ _ _ 5 [.int .i64 5] from rfl) (Reps.one (show Kd.M (Kd.int .i64) _ _ _ 100 [.int .i64 100] from rfl) (Reps.one (show Kd.M (Kd.int .i64) _ _ _ 0 [.int .i64 0] from rfl) (Reps.one (show Kd.M (Kd.int .i64) _ _ _ 101 [.int .i64 101] from rfl) (Reps.none _ _))))))); intro v316 w62 ho63 hb hg_ hnew_; clear hg_ hnew_; (first | rw [← Ny315.out] at ho63 | (simp only [Int.reduceToNat] at ho63; rw [← Ny315.out] at ho63)); replace HO_6 := Aside0.mk (Kd.R_elder' (rk_ HO_6.out) (Kd.R_base ho63) hb); have HO317 := Aside0.mk (Kd.R_lower (Kd.R_new' (Kd.R_new' ho63 (Kd.R_lt (rk_ HO_7.out))) (Kd.R_lt (rk_ HO_300001.out))) (below_size (r5_ HB.out HI255.out GE299.out))); replace HO_7 := Aside0.mk (Kd.R_elder' (rk_ HO_7.out) (Kd.R_base ho63) hb); replace HO_300001 := Aside0.mk (Kd.R_elder' (rk_ HO_300001.out) (Kd.R_base ho63) hb); replace BK299 := Aside0.mk (blk_below (g := gb299) (o := .cells #[.int .i64 t293, .slice Ao43 t294.length co43] 26 (0, 0)) (r0_ BK299.out) hb); replace HB := Aside0.mk (below_step (r5_ HB.out HI255.out GE299.out) hb); replace HI255 := Aside0.mk (IsS183.below (r2_ HI255.out NB255_299.out) hb); clear hb ho63; obtain ⟨Ao64, co64, eo64⟩ := Kd.R_slice HO317.out; subst eo64) | ((with_reducible refine gate_callee (f := 99) rfl ?_); refine goesL_ (some 61) rfl rfl Try.func99 (by kernel_rfl) rfl #[.pointer (some ⟨g255, 0, none⟩), .slice Ao64 y315.length co64] rfl ag_ ?_; (with_reducible refine (spec_l01Pick.calls g255 t252 t301 t302 _ _ y315 t318 t319 t320 w _ ?side1 ?side2 ?side3 ?side4 ?side5 A59.out).mono ?_); (case side1 => exact r2_ HI255.out NB255_299.out); (case side2 => exact r5_ HB.out HI255.out GE299.out); (case side3 => exact r11_ HO317.out); (case side4 => exact (Kd.R_reads' HO317.out).2.1); (case side5 => exact far_slice (IsS183.own_ne HI255.out HO317.out (by decide))); rintro e w65 ⟨rfl, hi, hb, hk⟩; refine ⟨_, rfl, ?_⟩; replace HO_6 := Aside0.mk (Kd.R_mono (Kd.R_keep (IsS183.apart (show IsS183 w _ g255 t252 t301 t302 from r2_ HI255.out NB255_299.out) (rk_ HO_6.out) (by decide)) hk (fun _ h => h.2)) (fun _ h => h.1)); replace HO_7 := Aside0.mk (Kd.R_mono (Kd.R_keep (IsS183.apart (show IsS183 w _ g255 t252 t301 t302 from r2_ HI255.out NB255_299.out) (rk_ HO_7.out) (by decide)) hk (fun _ h => h.2)) (fun _ h => h.1)); replace HO_300001 := Aside0.mk (Kd.R_mono (Kd.R_keep (IsS183.apart (show IsS183 w _ g255 t252 t301 t302 from r2_ HI255.out NB255_299.out) (rk_ HO_300001.out) (by decide)) hk (fun _ h => h.2)) (fun _ h => h.1)); replace BK299 := Aside0.mk (KeepBut.blk hk (g' := gb299) (o := .cells #[.int .i64 t293, .slice Ao43 t294.length co43] 26 (0, 0)) (r0_ BK299.out) NB299_255.out (by simp)); replace HO317 := Aside0.mk (Kd.R_mono (Kd.R_keep (IsS183.apart (show IsS183 w _ g255 t252 t301 t302 from r2_ HI255.out NB255_299.out) (rk_ HO317.out) (by decide)) hk (fun _ h => h.2)) (fun _ h => h.1)); replace HB := Aside0.mk (hb); replace HI255 := Aside0.mk (hi); (try clear hb); (try clear hb2); (try clear hk); (try clear hi)))
         go_ret3
         exact ⟨_, _, by first | rfl | (simp [errW_none, errW_some] <;> rfl) | (simp [*, errW_none, errW_some] <;> rfl), rk_ (Kd.R_mono HO_6.out (fun _ hk => hk.1.1)), rk_ (Kd.R_mono HO_7.out (fun _ hk => trivial)), r5_ HB.out HI255.out GE299.out⟩
     ·rw [if_neg c36] at H
      have c36b0 : (t281 == 1) = false := beq_eq_false_iff_ne.mpr c36
      have c36b1 : (t281 != 1) = true := bne_iff_ne.mpr c36
      obtain ⟨y321, hy321⟩ : ∃ y_ : List Int, y_ = (([10, 5, 100, 0, 101] : List Int)) := ⟨_, rfl⟩
      replace H : ((spec_l01Pick.f t252 t282 t283 y321).bind fun bt324 => (some (x6_1, x7_1, bt324.1))) = some (r1, r2, r3) := by first | (rw [hy321]; with_reducible exact H) | (have H2_ := (Option.bind_some _ _).symm.trans H; rw [hy321]; with_reducible exact H2_) | (have H2_ := (Option.bind_some _ _).symm.trans H; with_reducible exact H2_) | with_reducible exact H | (rw [hy321]; exact H) | exact H
      have Ny321 := Aside0.mk hy321
      clear hy321
      replace H := Option.bind_eq_some_iff.mp H
      obtain ⟨⟨t324, t325, t326⟩, A660, H⟩ := H
      replace H : (some (x6_1, x7_1, t324)) = some (r1, r2, r3) := H
      have A66 := Aside0.mk A660
      clear A660
      simp only [Option.some.injEq, Prod.mk.injEq] at H
      obtain ⟨rfl, rfl, rfl⟩ := H
      go_wp2_with (first | ((with_reducible refine gate_callee (f := 108) rfl ?_); refine goesL_ (some 34) rfl rfl Try.func108 (by kernel_rfl) rfl #[.pointer (some ⟨g255, 0, none⟩), .int .i64 24] rfl ag_ ?_; (with_reducible refine (spec_l01Next.calls g255 t252 x256001_1 x256002_1 24 t281 t282 t283 w _ ?side1 ?side2 A26.out).mono ?_); (case side1 => exact r3_ HI255.out); (case side2 => exact r7_ HB.out HI255.out); rintro e w67 ⟨rfl, hi, hb, hk⟩; refine ⟨_, rfl, ?_⟩; replace HO_6 := Aside0.mk (Kd.S_mono (Kd.S_keep (IsS183.apartS (show IsS183 w _ g255 t252 x256001_1 x256002_1 from r3_ HI255.out) (by (with_reducible repeat (first | apply Kd.S_alloc | apply Kd.S_drewN | apply Kd.S_drew)); exact HO_6.out) (by decide)) hk (fun _ h => h.2)) (fun _ h => h.1)); replace HO_7 := Aside0.mk (Kd.R_mono (Kd.R_keep (IsS183.apart (show IsS183 w _ g255 t252 x256001_1 x256002_1 from r3_ HI255.out) (rk_ HO_7.out) (by decide)) hk (fun _ h => h.2)) (fun _ h => h.1)); replace HB := Aside0.mk (hb); replace HI255 := Aside0.mk (hi); (try clear hb); (try clear hb2); (try clear hk); (try clear hi)) | ((with_reducible refine gate_dst (N := 60) rfl ?_); refine Kd.R_lit (Kd.int .i64) _ 2 ?hg (N := 60) ?hd (xs := ([10, 5, 100, 0, 101] : List Int)) (inner := [.int .i64 10, .int .i64 5, .int .i64 100, .int .i64 0, .int .i64 101]) (ok := fun _ => True) (okp := fun _ => True) ?hr ?hp (fun _ hk => hk) trivial (Below.refl _ _) (Nat.le_refl _) (by simp) ?_; (case hd => rfl); (case hg => rfl); (case hr => first | (go_simp; done) | (go_simp; rfl)); (case hp => exact (Reps.one (show Kd.M (Kd.int .i64) _ _ _ 10 [.int .i64 10] from rfl) (Reps.one (show Kd.M (Kd.int .i64) _ _ _ 5 [.int .i64 5] from rfl) (Reps.one (show Kd.M (Kd.int .i64) _ _ _ 100 [.int .i64 100] from rfl) (Reps.one (show Kd.M (Kd.int .i64) _ _ _ 0 [.int .i64 0] from rfl) (Reps.one (show Kd.M (Kd.int .i64) _ _ _ 101 [.int .i64 101] from rfl) (Reps.none _ _))))))); intro v322 w68 ho69 hb hg_ hnew_; clear hg_ hnew_; (first | rw [← Ny321.out] at ho69 | (simp only [Int.reduceToNat] at ho69; rw [← Ny321.out] at ho69)); replace HO_6 := Aside0.mk (Kd.S_elder' (by (with_reducible repeat (first | apply Kd.S_alloc | apply Kd.S_drewN | apply Kd.S_drew)); exact HO_6.out) (Kd.R_base ho69) hb); have HO323 := Aside0.mk (Kd.R_lower (Kd.R_new' ho69 (Kd.R_lt (rk_ HO_7.out))) (below_size (r7_ HB.out HI255.out))); replace HO_7 := Aside0.mk (Kd.R_elder' (rk_ HO_7.out) (Kd.R_base ho69) hb); replace HB := Aside0.mk (below_step (r7_ HB.out HI255.out) hb); replace HI255 := Aside0.mk (IsS183.below (r3_ HI255.out) hb); clear hb ho69; obtain ⟨Ao70, co70, eo70⟩ := Kd.R_slice HO323.out; subst eo70) | ((with_reducible refine gate_callee (f := 99) rfl ?_); refine goesL_ (some 61) rfl rfl Try.func99 (by kernel_rfl) rfl #[.pointer (some ⟨g255, 0, none⟩), .slice Ao70 y321.length co70] rfl ag_ ?_; (with_reducible refine (spec_l01Pick.calls g255 t252 t282 t283 _ _ y321 t324 t325 t326 w _ ?side1 ?side2 ?side3 ?side4 ?side5 A66.out).mono ?_); (case side1 => exact r3_ HI255.out); (case side2 => exact r7_ HB.out HI255.out); (case side3 => exact r11_ HO323.out); (case side4 => exact (Kd.R_reads' HO323.out).2.1); (case side5 => exact far_slice (IsS183.own_ne HI255.out HO323.out (by decide))); rintro e w71 ⟨rfl, hi, hb, hk⟩; refine ⟨_, rfl, ?_⟩; replace HO_6 := Aside0.mk (Kd.S_mono (Kd.S_keep (IsS183.apartS (show IsS183 w _ g255 t252 t282 t283 from r3_ HI255.out) (by (with_reducible repeat (first | apply Kd.S_alloc | apply Kd.S_drewN | apply Kd.S_drew)); exact HO_6.out) (by decide)) hk (fun _ h => h.2)) (fun _ h => h.1)); replace HO_7 := Aside0.mk (Kd.R_mono (Kd.R_keep (IsS183.apart (show IsS183 w _ g255 t252 t282 t283 from r3_ HI255.out) (rk_ HO_7.out) (by decide)) hk (fun _ h => h.2)) (fun _ h => h.1)); replace HO323 := Aside0.mk (Kd.R_mono (Kd.R_keep (IsS183.apart (show IsS183 w _ g255 t252 t282 t283 from r3_ HI255.out) (rk_ HO323.out) (by decide)) hk (fun _ h => h.2)) (fun _ h => h.1)); replace HB := Aside0.mk (hb); replace HI255 := Aside0.mk (hi); (try clear hb); (try clear hb2); (try clear hk); (try clear hi)))
      go_ret3
      exact ⟨_, _, by first | rfl | (simp [errW_none, errW_some] <;> rfl) | (simp [*, errW_none, errW_some] <;> rfl), rk_ (Kd.R_mono (Kd.S_R HO_6.out) (fun _ hk => hk.1)), rk_ (Kd.R_mono HO_7.out (fun _ hk => trivial)), r7_ HB.out HI255.out⟩
mutual
def impl_WorstPins.l0 : Nat → List (S26) → List Int → Int → List (S26) → Int → Int → Option (List Int × Int)
 | 0, _, _, _, _, _, _ => none
 | k + 1, x0, x1, x2, x16, x17, x18 => if x18 < x17 then (if 0 ≤ x18 then (if x18 < (x16.length : Int) then ((impl_IsCircuit.f k ((rd_T26 x16 x18).f0) ((rd_T26 x16 x18).f1)).bind fun t329 => (if t329 = true then (impl_WorstPins.l0 k x0 x1 x2 x16 x17 (wrap64 (x18 + 1))) else (some (([] : List Int), 1)))) else (none)) else (none)) else (if (x1.length : Int) = (x0.length : Int) then ((impl_allWithin.f k x1 0 1000000000).bind fun t330 => (if t330 = true then ((impl_within.f x2 0 100).bind fun t331 => (impl_WorstPins.j1 k x0 x1 x2 (!t331))) else (impl_WorstPins.j1 k x0 x1 x2 true))) else (impl_WorstPins.j1 k x0 x1 x2 true))
def impl_WorstPins.j1 : Nat → List (S26) → List Int → Int → Bool → Option (List Int × Int)
 | 0, _, _, _, _ => none
 | k + 1, x0, x1, x2, x40 => if x40 = true then (some (([] : List Int), 2)) else (impl_WorstPins.l1 k x1 x2 ([] : List Int) x0 (x0.length : Int) 0)
def impl_WorstPins.l1 : Nat → List Int → Int → List Int → List (S26) → Int → Int → Option (List Int × Int)
 | 0, _, _, _, _, _, _ => none
 | k + 1, x1, x2, x10, x41, x42, x43 => if x43 < x42 then (if 0 ≤ x43 then (if x43 < (x41.length : Int) then (if x43 < (x1.length : Int) then ((impl_stateOf.f k ((rd_T26 x41 x43).f0) ((rd_T26 x41 x43).f1) (rd x1 x43) x2).bind fun t335 => (if t335 = 0 then (impl_WorstPins.l1 k x1 x2 x10 x41 x42 (wrap64 (x43 + 1))) else (if x10.length < 17592186044416 then (impl_WorstPins.l1 k x1 x2 (x10 ++ [x43]) x41 x42 (wrap64 (x43 + 1))) else (none)))) else (none)) else (none)) else (none)) else (some (x10, 0))
end
def impl_WorstPins.f (k : Nat) (l0 : List (S26)) (l1 : List Int) (a2 : Int) : Option (List Int × Int) := if (l0.length : Int) > 32 then (some (([] : List Int), 1)) else (impl_WorstPins.l0 k l0 l1 a2 l0 (l0.length : Int) 0)
def impl_WorstPins.T15 : Bool × List (List Nat × List Nat) := (true, [([], []), ([], []), ([], []), ([1, 2], [1, 2]), ([3], [3]), ([], []), ([0, 4, 5], [0, 4, 5]), ([6], [6])])
def impl_WorstPins.B15 : List Nat := [0, 0, 0, 6, 14, 0, 63, 127]
theorem impl_WorstPins.tab15 : rtab .any (opsOf Try.f22 15) = impl_WorstPins.T15 := by kernel_rfl
theorem impl_WorstPins.bits15 : waitsOk impl_WorstPins.T15.2 impl_WorstPins.B15 = true := by kernel_rfl
set_option maxHeartbeats 8000000 in
set_option maxRecDepth 100000 in
theorem impl_WorstPins.calls (k : Nat) (A0 : Option Addr) (c0 : Nat) (l0 : List (S26)) (A1 : Option Addr) (c1 : Nat) (l1 : List Int) (a2 : Int) (r1 : List Int) (r2 : Int) (w : World) (hr0 : Kd.C k26 w A0 l0.length l0) (hc0 : l0.length ≤ c0) (hr1 : Kd.C (Kd.int .i64) w A1 l1.length l1) (hc1 : l1.length ≤ c1) (h : impl_WorstPins.f k l0 l1 a2 = some (r1, r2)) :
  Calls Try.prog 22 #[.slice A0 l0.length c0, .slice A1 l1.length c1, .int .i64 a2] w fun e w' => ∃ v0_ : Value, e = .returned (.tuple #[v0_, .int .i64 r2]) ∧ Kd.R (Kd.int .i64) 2 w' w.heap.size (fun _ => True) v0_ r1 ∧ Below w.heap.size w w' := by
 have hu26 := Try.underlying26
 have HR0 := Aside0.mk hr0
 have HC0 := Aside0.mk hc0
 clear hr0 hc0
 have HR1 := Aside0.mk hr1
 have HC1 := Aside0.mk hc1
 clear hr1 hc1
 have HB := Aside0.mk (Below.refl w.heap.size w)
 have H : (if (l0.length : Int) > 32 then (some (([] : List Int), 1)) else (impl_WorstPins.l0 k l0 l1 a2 l0 (l0.length : Int) 0)) = some (r1, r2) := h
 clear h
 by_cases c4 : (l0.length : Int) > 32
 ·rw [if_pos c4] at H
  have c4b0 : decide (32 < (l0.length : Int)) = true := decide_eq_true c4
  have c4b1 : decide (32 < l0.length) = true := decide_eq_true (by omega)
  clear c4
  simp only [Option.some.injEq, Prod.mk.injEq] at H
  obtain ⟨rfl, rfl⟩ := H
  go_enter Try.func22, Try.ntmps22
  go_wp2
  go_ret2
  exact ⟨_, by first | rfl | (simp [errW_none, errW_some] <;> rfl) | (simp [*, errW_none, errW_some] <;> rfl), by first | exact Kd.R_nil _ _ _ _ _ | exact Kd.N_nil _ _ _ _ _ | exact Kd.V_nil _ _ _ _ _ | exact Kd.Q_nil _ _ _ _ _ | exact Kd.S_nil _ _ _ _ _, bl_ HB.out⟩
 ·rw [if_neg c4] at H
  have c4b0 : decide (32 < (l0.length : Int)) = false := decide_eq_false c4
  have c4b1 : decide (32 < l0.length) = false := decide_eq_false (by omega)
  clear c4
  have H' := Aside0.mk H
  clear H
  go_enter Try.func22, Try.ntmps22
  go_wp2
  go_loopg [18] k (fun kq v18 w' => ∃ (x18_1 : Int), v18 = .int .i64 x18_1 ∧ Aside0 (impl_WorstPins.l0 kq l0 l1 a2 l0 (l0.length : Int) x18_1 = some (r1, r2)) ∧ Aside0 (kq ≤ k) ∧ Aside0 (Below w.heap.size w w'))
  case atStart => exact ⟨(0), (by first | rfl | (simp; done) | (simp [*]; done)), H', ⟨Nat.le_refl _⟩, ⟨bl_ HB.out⟩⟩
  case round =>
   clear H'
   try clear c1
   try clear c2
   try clear p2
   try clear c4
   try clear c4b0
   try clear c4b1
   obtain ⟨x18_1, rfl, HA, HK1, HB⟩ := hrel
   cases gk with
   | zero => exact absurd HA.out (by simp [impl_WorstPins.l0])
   | succ k1 =>
    have H := HA.out
    clear HA
    simp only [impl_WorstPins.l0] at H
    by_cases c5 : x18_1 < (l0.length : Int)
    ·rw [if_pos c5] at H
     have c5b0 : decide (x18_1 < (l0.length : Int)) = true := decide_eq_true c5
     clear c5
     by_cases c6 : 0 ≤ x18_1
     case neg =>
      rw [if_neg c6] at H
      exact absurd H (by simp)
     rw [if_pos c6] at H
     have c6b0 : decide (0 ≤ x18_1) = true := decide_eq_true c6
     clear c6
     by_cases c7 : x18_1 < (l0.length : Int)
     case neg =>
      rw [if_neg c7] at H
      exact absurd H (by simp)
     rw [if_pos c7] at H
     have c7b0 : decide (x18_1 < (l0.length : Int)) = true := decide_eq_true c7
     clear c7
     replace H := Option.bind_eq_some_iff.mp H
     obtain ⟨t329, A80, H⟩ := H
     replace H : (if t329 = true then (impl_WorstPins.l0 k1 l0 l1 a2 l0 (l0.length : Int) (wrap64 (x18_1 + 1))) else (some (([] : List Int), 1))) = some (r1, r2) := H
     have A8 := Aside0.mk A80
     clear A80
     by_cases c9 : t329 = true
     ·subst c9
      replace H : (impl_WorstPins.l0 k1 l0 l1 a2 l0 (l0.length : Int) (wrap64 (x18_1 + 1))) = some (r1, r2) := by rw [if_pos rfl] at H; exact H
      have H' := Aside0.mk H
      clear H
      have p327 : 0 ≤ (x18_1 : Int) := od_
      have q327 : x18_1 < (l0.length : Int) := od_
      obtain ⟨ad327, A327_1, c327_1, e327, hx327_0, hx327_1, hl327_1, hi327_1⟩ := at_T26 HR0.out x18_1 p327 q327
      cases e327
      replace hx327_0 := bc_ HB.out hx327_0
      replace hx327_1 := bc_ HB.out hx327_1
      have HR327_1 := Aside0.mk hi327_1
      have HC327_1 := Aside0.mk hl327_1
      clear hi327_1 hl327_1
      replace p327 := eq_true p327
      replace q327 := eq_true q327
      go_wp2_with (first | ((with_reducible refine gate_dst (N := 9) rfl ?_); refine box_event ?hg (N := 9) ?hd (cs := #[.int .i64 0, .slice none 0 0]) (t := 26) ?hr ?_; (case hd => rfl); (case hg => rfl); (case hr => first | (go_simp; done) | (go_simp; rfl)); intro gb328 hg w10 hbox hb; have BK328 := Aside0.mk (hbox); have GW328 := Aside0.mk ((by rw [hg]; exact (below_size (bl_ HB.out)) : w.heap.size ≤ gb328)); have GE328 := Aside0.mk ((by rw [hg]; exact (below_size (bl_ HB.out)) : w.heap.size ≤ gb328)); replace HB := Aside0.mk (below_step (bl_ HB.out) hb); clear hb hbox hg; have hcz11_0 : w10.cell? ⟨gb328, 0, none⟩ = some (.int .i64 0) := (blk_cell BK328.out 0).trans rfl; have hcz11_1 : w10.cell? ⟨gb328, 1, none⟩ = some (.slice none 0 0) := (blk_cell BK328.out 1).trans rfl; have hfz11_0 := blk_frozen BK328.out 0; have hfz11_1 := blk_frozen BK328.out 1) | ((with_reducible refine gate_callee (f := 25) rfl ?_); refine goesL_ (some 23) rfl rfl Try.func25 (by kernel_rfl) rfl #[.agg #[.int .i64 ((rd_T26 l0 x18_1).f0), .slice A327_1 ((rd_T26 l0 x18_1).f1).length c327_1]] rfl ag_ ?_; (with_reducible refine (impl_IsCircuit.calls k1 ((rd_T26 l0 x18_1).f0) _ _ ((rd_T26 l0 x18_1).f1) true _ ?side1 ?side2 A8.out).mono ?_); (case side1 => exact Kd.C_below HR327_1.out (r1_ HB.out GE328.out)); (case side2 => exact HC327_1.out); rintro e w12 ⟨rfl, hb⟩; refine ⟨_, rfl, ?_⟩; replace BK328 := Aside0.mk (blk_below (g := gb328) (o := .cells #[.int .i64 ((rd_T26 l0 x18_1).f0), .slice A327_1 ((rd_T26 l0 x18_1).f1).length c327_1] 26 (0, 0)) (by (with_reducible repeat (first | refine blk_drewN ?_ _ | refine blk_drew ?_ | refine blk_alloc ?_ _)); refine blk_put (cs := #[.int .i64 ((rd_T26 l0 x18_1).f0), .slice none 0 0]) ?_ 1 _ rfl; (with_reducible repeat (first | refine blk_drewN ?_ _ | refine blk_drew ?_ | refine blk_alloc ?_ _)); refine blk_put (cs := #[.int .i64 0, .slice none 0 0]) ?_ 0 _ rfl; (with_reducible repeat (first | refine blk_drewN ?_ _ | refine blk_drew ?_ | refine blk_alloc ?_ _)); exact BK328.out) hb); replace HB := Aside0.mk (below_step (r1_ HB.out GE328.out) hb); (try clear hb); (try clear hb2); (try clear hk); (try clear hi)))
      go_roundg k1
      case measure => have := HK1.out; omega
      case rel => exact ⟨(wrap64 (x18_1 + 1)), (by first | rfl | (simp; done) | (simp [*]; done)), H', ⟨by have := HK1.out; omega⟩, ⟨r1_ HB.out GE328.out⟩⟩
     ·replace c9 := Bool.eq_false_iff.mpr c9
      subst c9
      replace H : (some (([] : List Int), 1)) = some (r1, r2) := by rw [if_neg (show ¬ (false = true) by decide)] at H; exact H
      simp only [Option.some.injEq, Prod.mk.injEq] at H
      obtain ⟨rfl, rfl⟩ := H
      have p327 : 0 ≤ (x18_1 : Int) := od_
      have q327 : x18_1 < (l0.length : Int) := od_
      obtain ⟨ad327, A327_1, c327_1, e327, hx327_0, hx327_1, hl327_1, hi327_1⟩ := at_T26 HR0.out x18_1 p327 q327
      cases e327
      replace hx327_0 := bc_ HB.out hx327_0
      replace hx327_1 := bc_ HB.out hx327_1
      have HR327_1 := Aside0.mk hi327_1
      have HC327_1 := Aside0.mk hl327_1
      clear hi327_1 hl327_1
      replace p327 := eq_true p327
      replace q327 := eq_true q327
      go_wp2_with (first | ((with_reducible refine gate_dst (N := 9) rfl ?_); refine box_event ?hg (N := 9) ?hd (cs := #[.int .i64 0, .slice none 0 0]) (t := 26) ?hr ?_; (case hd => rfl); (case hg => rfl); (case hr => first | (go_simp; done) | (go_simp; rfl)); intro gb328 hg w13 hbox hb; have BK328 := Aside0.mk (hbox); have GW328 := Aside0.mk ((by rw [hg]; exact (below_size (bl_ HB.out)) : w.heap.size ≤ gb328)); have GE328 := Aside0.mk ((by rw [hg]; exact (below_size (bl_ HB.out)) : w.heap.size ≤ gb328)); replace HB := Aside0.mk (below_step (bl_ HB.out) hb); clear hb hbox hg; have hcz14_0 : w13.cell? ⟨gb328, 0, none⟩ = some (.int .i64 0) := (blk_cell BK328.out 0).trans rfl; have hcz14_1 : w13.cell? ⟨gb328, 1, none⟩ = some (.slice none 0 0) := (blk_cell BK328.out 1).trans rfl; have hfz14_0 := blk_frozen BK328.out 0; have hfz14_1 := blk_frozen BK328.out 1) | ((with_reducible refine gate_callee (f := 25) rfl ?_); refine goesL_ (some 23) rfl rfl Try.func25 (by kernel_rfl) rfl #[.agg #[.int .i64 ((rd_T26 l0 x18_1).f0), .slice A327_1 ((rd_T26 l0 x18_1).f1).length c327_1]] rfl ag_ ?_; (with_reducible refine (impl_IsCircuit.calls k1 ((rd_T26 l0 x18_1).f0) _ _ ((rd_T26 l0 x18_1).f1) false _ ?side1 ?side2 A8.out).mono ?_); (case side1 => exact Kd.C_below HR327_1.out (r1_ HB.out GE328.out)); (case side2 => exact HC327_1.out); rintro e w15 ⟨rfl, hb⟩; refine ⟨_, rfl, ?_⟩; replace BK328 := Aside0.mk (blk_below (g := gb328) (o := .cells #[.int .i64 ((rd_T26 l0 x18_1).f0), .slice A327_1 ((rd_T26 l0 x18_1).f1).length c327_1] 26 (0, 0)) (by (with_reducible repeat (first | refine blk_drewN ?_ _ | refine blk_drew ?_ | refine blk_alloc ?_ _)); refine blk_put (cs := #[.int .i64 ((rd_T26 l0 x18_1).f0), .slice none 0 0]) ?_ 1 _ rfl; (with_reducible repeat (first | refine blk_drewN ?_ _ | refine blk_drew ?_ | refine blk_alloc ?_ _)); refine blk_put (cs := #[.int .i64 0, .slice none 0 0]) ?_ 0 _ rfl; (with_reducible repeat (first | refine blk_drewN ?_ _ | refine blk_drew ?_ | refine blk_alloc ?_ _)); exact BK328.out) hb); replace HB := Aside0.mk (below_step (r1_ HB.out GE328.out) hb); (try clear hb); (try clear hb2); (try clear hk); (try clear hi)))
      go_ret2
      exact ⟨_, by first | rfl | (simp [errW_none, errW_some] <;> rfl) | (simp [*, errW_none, errW_some] <;> rfl), by first | exact Kd.R_nil _ _ _ _ _ | exact Kd.N_nil _ _ _ _ _ | exact Kd.V_nil _ _ _ _ _ | exact Kd.Q_nil _ _ _ _ _ | exact Kd.S_nil _ _ _ _ _, r1_ HB.out GE328.out⟩
    ·rw [if_neg c5] at H
     have c5b0 : decide (x18_1 < (l0.length : Int)) = false := decide_eq_false c5
     clear c5
     have HC16 := Aside0.mk H
     clear H
     go_upto_region 9 with (fail)
     go_cut [40] (fun v40 wc => ∃ (kq : Nat) (x40_15 : Bool), v40 = .bool x40_15 ∧ Aside0 (impl_WorstPins.j1 kq l0 l1 a2 x40_15 = some (r1, r2)) ∧ Aside0 (kq ≤ k1) ∧ Aside0 (Below w.heap.size w wc))
     case first =>
      have H := HC16.out
      clear HC16
      by_cases c17 : (l1.length : Int) = (l0.length : Int)
      ·rw [if_pos c17] at H
       have c17b0 : ((l1.length : Int) == (l0.length : Int)) = true := beq_iff_eq.mpr c17
       have c17b1 : ((l1.length : Int) != (l0.length : Int)) = false := bne_eq_false_iff_eq.mpr c17
       have c17b2 : (l1.length == l0.length) = true := by first | simpa using c17 | (simp at c17 ⊢; omega)
       clear c17
       (first | rw [c17b0] | (simp only [i64_w, i32_w]; rw [c17b0]) | skip)
       replace H := Option.bind_eq_some_iff.mp H
       obtain ⟨t330, A180, H⟩ := H
       replace H : (if t330 = true then ((impl_within.f a2 0 100).bind fun t331 => (impl_WorstPins.j1 k1 l0 l1 a2 (!t331))) else (impl_WorstPins.j1 k1 l0 l1 a2 true)) = some (r1, r2) := H
       have A18 := Aside0.mk A180
       clear A180
       by_cases c19 : t330 = true
       ·subst c19
        replace H : ((impl_within.f a2 0 100).bind fun t331 => (impl_WorstPins.j1 k1 l0 l1 a2 (!t331))) = some (r1, r2) := by rw [if_pos rfl] at H; exact H
        replace H := Option.bind_eq_some_iff.mp H
        obtain ⟨t331, A200, H⟩ := H
        replace H : (impl_WorstPins.j1 k1 l0 l1 a2 (!t331)) = some (r1, r2) := H
        have A20 := Aside0.mk A200
        clear A200
        have H' := Aside0.mk H
        clear H
        go_wp2_with (first | (go_at_call 110; (with_reducible refine (impl_allWithin.calls k1 _ _ l1 0 1000000000 true _ ?side1 ?side2 A18.out).mono ?_); (case side1 => exact r8_ HR1.out HB.out); (case side2 => exact HC1.out); rintro e w' ⟨rfl, ⟨nd, rfl⟩⟩) | (go_at_call 101; (with_reducible refine (impl_within.calls a2 0 100 t331 _ A20.out).mono ?_); rintro e w' ⟨rfl, ⟨nd, rfl⟩⟩))
        go_meet
        case rel => exact ⟨_, (!t331), (by first | rfl | (simp; done) | (simp [*]; done)), H', ⟨by have := HK1.out; first | omega | exact Nat.le_refl _⟩, ⟨bl_ HB.out⟩⟩
       ·replace c19 := Bool.eq_false_iff.mpr c19
        subst c19
        replace H : (impl_WorstPins.j1 k1 l0 l1 a2 true) = some (r1, r2) := by rw [if_neg (show ¬ (false = true) by decide)] at H; exact H
        have H' := Aside0.mk H
        clear H
        go_wp2_with (first | (go_at_call 110; (with_reducible refine (impl_allWithin.calls k1 _ _ l1 0 1000000000 false _ ?side1 ?side2 A18.out).mono ?_); (case side1 => exact r8_ HR1.out HB.out); (case side2 => exact HC1.out); rintro e w' ⟨rfl, ⟨nd, rfl⟩⟩))
        go_meet
        case rel => exact ⟨_, (true), (by first | rfl | (simp; done) | (simp [*]; done)), H', ⟨by have := HK1.out; first | omega | exact Nat.le_refl _⟩, ⟨bl_ HB.out⟩⟩
      ·rw [if_neg c17] at H
       have c17b0 : ((l1.length : Int) == (l0.length : Int)) = false := beq_eq_false_iff_ne.mpr c17
       have c17b1 : ((l1.length : Int) != (l0.length : Int)) = true := bne_iff_ne.mpr c17
       have c17b2 : (l1.length == l0.length) = false := by first | simpa using c17 | (simp at c17 ⊢; omega)
       (first | rw [c17b0] | (simp only [i64_w, i32_w]; rw [c17b0]) | skip)
       have H' := Aside0.mk H
       clear H
       go_wp2
       go_meet
       case rel => exact ⟨_, (true), (by first | rfl | (simp; done) | (simp [*]; done)), H', ⟨by have := HK1.out; first | omega | exact Nat.le_refl _⟩, ⟨bl_ HB.out⟩⟩
     case rest =>
      clear HC16
      try clear c1
      try clear c2
      try clear p2
      try clear c3
      try clear p3
      try clear q3
      try clear hx3
      try clear c4
      try clear c4b0
      try clear c4b1
      try clear c5
      try clear c5b0
      try clear c6
      try clear c6b0
      try clear p6
      try clear c7
      try clear c7b0
      try clear c9
      try clear c17
      try clear c17b0
      try clear c17b1
      try clear c17b2
      try clear c19
      try clear hcz11_0
      try clear hcz11_1
      try clear hcz14_0
      try clear hcz14_1
      try clear hfz11_0
      try clear hfz11_1
      try clear hfz14_0
      try clear hfz14_1
      try clear hx327_0
      try clear hx327_1
      try clear p2
      try clear p327
      try clear q327
      obtain ⟨kq, x40_15, rfl, HA, HJ15, HB⟩ := hcut
      cases kq with
      | zero => exact absurd HA.out (by simp [impl_WorstPins.j1])
      | succ kj15 =>
       have H := HA.out
       clear HA
       simp only [impl_WorstPins.j1] at H
       by_cases c21 : x40_15 = true
       ·subst c21
        replace H : (some (([] : List Int), 2)) = some (r1, r2) := by rw [if_pos rfl] at H; exact H
        simp only [Option.some.injEq, Prod.mk.injEq] at H
        obtain ⟨rfl, rfl⟩ := H
        go_wp2
        go_ret2
        exact ⟨_, by first | rfl | (simp [errW_none, errW_some] <;> rfl) | (simp [*, errW_none, errW_some] <;> rfl), by first | exact Kd.R_nil _ _ _ _ _ | exact Kd.N_nil _ _ _ _ _ | exact Kd.V_nil _ _ _ _ _ | exact Kd.Q_nil _ _ _ _ _ | exact Kd.S_nil _ _ _ _ _, bl_ HB.out⟩
       ·replace c21 := Bool.eq_false_iff.mpr c21
        subst c21
        replace H : (impl_WorstPins.l1 kj15 l1 a2 ([] : List Int) l0 (l0.length : Int) 0) = some (r1, r2) := by rw [if_neg (show ¬ (false = true) by decide)] at H; exact H
        have H' := Aside0.mk H
        clear H
        go_wp2
        go_loopg [10, 43] kj15 (fun kq v10 v43 w' => ∃ (x10_3 : List Int) (x43_3 : Int), v43 = .int .i64 x43_3 ∧ Aside0 (impl_WorstPins.l1 kq l1 a2 x10_3 l0 (l0.length : Int) x43_3 = some (r1, r2)) ∧ Aside0 (kq ≤ kj15) ∧ Aside0 (Kd.R (Kd.int .i64) 2 w' w.heap.size (fun _ => True) v10 x10_3) ∧ Aside0 (Below w.heap.size w w'))
        case atStart => exact ⟨(([] : List Int)), (0), (by first | rfl | (simp; done) | (simp [*]; done)), H', ⟨Nat.le_refl _⟩, ⟨by first | exact Kd.R_nil _ _ _ _ _ | exact Kd.N_nil _ _ _ _ _ | exact Kd.V_nil _ _ _ _ _ | exact Kd.Q_nil _ _ _ _ _ | exact Kd.S_nil _ _ _ _ _⟩, ⟨bl_ HB.out⟩⟩
        case round =>
         clear H'
         try clear c1
         try clear c2
         try clear p2
         try clear c3
         try clear p3
         try clear q3
         try clear hx3
         try clear c4
         try clear c4b0
         try clear c4b1
         try clear c5
         try clear c5b0
         try clear c6
         try clear c6b0
         try clear p6
         try clear c7
         try clear c7b0
         try clear c9
         try clear c17
         try clear c17b0
         try clear c17b1
         try clear c17b2
         try clear c19
         try clear c21
         try clear hcz11_0
         try clear hcz11_1
         try clear hcz14_0
         try clear hcz14_1
         try clear hfz11_0
         try clear hfz11_1
         try clear hfz14_0
         try clear hfz14_1
         try clear hx327_0
         try clear hx327_1
         try clear p2
         try clear p3
         try clear p327
         try clear p6
         try clear q3
         try clear q327
         obtain ⟨x10_3, x43_3, rfl, HA, HK3, HO_10, HB⟩ := hrel
         cases gk with
         | zero => exact absurd HA.out (by simp [impl_WorstPins.l1])
         | succ k3 =>
          have H := HA.out
          clear HA
          simp only [impl_WorstPins.l1] at H
          by_cases c22 : x43_3 < (l0.length : Int)
          ·rw [if_pos c22] at H
           have c22b0 : decide (x43_3 < (l0.length : Int)) = true := decide_eq_true c22
           clear c22
           by_cases c23 : 0 ≤ x43_3
           case neg =>
            rw [if_neg c23] at H
            exact absurd H (by simp)
           rw [if_pos c23] at H
           have c23b0 : decide (0 ≤ x43_3) = true := decide_eq_true c23
           clear c23
           by_cases c24 : x43_3 < (l0.length : Int)
           case neg =>
            rw [if_neg c24] at H
            exact absurd H (by simp)
           rw [if_pos c24] at H
           have c24b0 : decide (x43_3 < (l0.length : Int)) = true := decide_eq_true c24
           clear c24
           by_cases c25 : x43_3 < (l1.length : Int)
           case neg =>
            rw [if_neg c25] at H
            exact absurd H (by simp)
           rw [if_pos c25] at H
           have c25b0 : decide (x43_3 < (l1.length : Int)) = true := decide_eq_true c25
           clear c25
           replace H := Option.bind_eq_some_iff.mp H
           obtain ⟨t335, A260, H⟩ := H
           replace H : (if t335 = 0 then (impl_WorstPins.l1 k3 l1 a2 x10_3 l0 (l0.length : Int) (wrap64 (x43_3 + 1))) else (if x10_3.length < 17592186044416 then (impl_WorstPins.l1 k3 l1 a2 (x10_3 ++ [x43_3]) l0 (l0.length : Int) (wrap64 (x43_3 + 1))) else (none))) = some (r1, r2) := H
           have A26 := Aside0.mk A260
           clear A260
           by_cases c27 : t335 = 0
           ·rw [if_pos c27] at H
            have c27b0 : (t335 == 0) = true := beq_iff_eq.mpr c27
            have c27b1 : (t335 != 0) = false := bne_eq_false_iff_eq.mpr c27
            clear c27
            have H' := Aside0.mk H
            clear H
            have p332 : 0 ≤ (x43_3 : Int) := od_
            have q332 : x43_3 < (l0.length : Int) := od_
            obtain ⟨ad332, A332_1, c332_1, e332, hx332_0, hx332_1, hl332_1, hi332_1⟩ := at_T26 HR0.out x43_3 p332 q332
            cases e332
            replace hx332_0 := bc_ HB.out hx332_0
            replace hx332_1 := bc_ HB.out hx332_1
            have HR332_1 := Aside0.mk hi332_1
            have HC332_1 := Aside0.mk hl332_1
            clear hi332_1 hl332_1
            replace p332 := eq_true p332
            replace q332 := eq_true q332
            try go_wp2_with (first | ((with_reducible refine gate_dst (N := 12) rfl ?_); refine box_event ?hg (N := 12) ?hd (cs := #[.int .i64 0, .slice none 0 0]) (t := 26) ?hr ?_; (case hd => rfl); (case hg => rfl); (case hr => first | (go_simp; done) | (go_simp; rfl)); intro gb333 hg w28 hbox hb; replace HO_10 := Aside0.mk (Kd.R_below (rk_ HO_10.out) hb); have BK333 := Aside0.mk (hbox); have GW333 := Aside0.mk ((by rw [hg]; exact (below_size (bl_ HB.out)) : w.heap.size ≤ gb333)); have GE333 := Aside0.mk ((by rw [hg]; exact (below_size (bl_ HB.out)) : w.heap.size ≤ gb333)); replace HB := Aside0.mk (below_step (bl_ HB.out) hb); clear hb hbox hg; have hcz29_0 : w28.cell? ⟨gb333, 0, none⟩ = some (.int .i64 0) := (blk_cell BK333.out 0).trans rfl; have hcz29_1 : w28.cell? ⟨gb333, 1, none⟩ = some (.slice none 0 0) := (blk_cell BK333.out 1).trans rfl; have hfz29_0 := blk_frozen BK333.out 0; have hfz29_1 := blk_frozen BK333.out 1))
            have n0_ : Aside0 (Kd.R (Kd.int .i64) 2 ((w28.setCell ⟨gb333, 0, none⟩ (.int .i64 ((rd_T26 l0 x43_3).f0))).setCell ⟨gb333, 1, none⟩ (.slice A332_1 ((rd_T26 l0 x43_3).f1).length c332_1)) w.heap.size (fun _ => True) u10 x10_3) := ⟨rk_ (Kd.R_mono (Kd.R_far (p := ⟨gb333, 1, none⟩) (Kd.R_far (p := ⟨gb333, 0, none⟩) (Kd.R_types HO_10.out BK333.out (by decide)) (fun _ hk => hk.2) (.int .i64 ((rd_T26 l0 x43_3).f0))) (fun _ hk => hk.2) (.slice A332_1 ((rd_T26 l0 x43_3).f1).length c332_1)) (fun _ hk => trivial))⟩
            have n1_ : Aside0 (((w28.setCell ⟨gb333, 0, none⟩ (.int .i64 ((rd_T26 l0 x43_3).f0))).setCell ⟨gb333, 1, none⟩ (.slice A332_1 ((rd_T26 l0 x43_3).f1).length c332_1)).heap[gb333]? = some (.cells #[.int .i64 ((rd_T26 l0 x43_3).f0), .slice A332_1 ((rd_T26 l0 x43_3).f1).length c332_1] 26 (0, 0))) := ⟨by (with_reducible repeat (first | refine blk_drewN ?_ _ | refine blk_drew ?_ | refine blk_alloc ?_ _)); refine blk_put (cs := #[.int .i64 ((rd_T26 l0 x43_3).f0), .slice none 0 0]) ?_ 1 _ rfl; (with_reducible repeat (first | refine blk_drewN ?_ _ | refine blk_drew ?_ | refine blk_alloc ?_ _)); refine blk_put (cs := #[.int .i64 0, .slice none 0 0]) ?_ 0 _ rfl; (with_reducible repeat (first | refine blk_drewN ?_ _ | refine blk_drew ?_ | refine blk_alloc ?_ _)); exact BK333.out⟩
            have n2_ : Aside0 (Below w.heap.size w ((w28.setCell ⟨gb333, 0, none⟩ (.int .i64 ((rd_T26 l0 x43_3).f0))).setCell ⟨gb333, 1, none⟩ (.slice A332_1 ((rd_T26 l0 x43_3).f1).length c332_1))) := ⟨r1_ HB.out GE333.out⟩
            (try clear HO_10)
            (try clear BK333)
            (try clear HB)
            generalize ((w28.setCell ⟨gb333, 0, none⟩ (.int .i64 ((rd_T26 l0 x43_3).f0))).setCell ⟨gb333, 1, none⟩ (.slice A332_1 ((rd_T26 l0 x43_3).f1).length c332_1)) = w30 at n0_ n1_ n2_ ⊢
            have HO_10 := n0_
            have BK333 := n1_
            have HB := n2_
            clear n0_ n1_ n2_
            replace HO_10 := Aside0.mk (Kd.R_drew HO_10.out)
            replace BK333 := Aside0.mk (blk_drew BK333.out)
            replace HB := Aside0.mk (below_drew1 HB.out)
            have p334 : 0 ≤ (x43_3 : Int) := od_
            have q334 : x43_3 < (l1.length : Int) := od_
            obtain ⟨ad334, e334, hx334_0⟩ := Kd.at_int HR1.out x43_3 p334 q334
            have hw334_0 := hx334_0
            cases e334
            replace hx334_0 := bc_ HB.out hx334_0
            replace p334 := eq_true p334
            replace q334 := eq_true q334
            refine start_ (n := 8) (S := fun w' => w'.cell? ⟨gb333, 0, none⟩ = some (.int .i64 ((rd_T26 l0 x43_3).f0)) ∧ w'.cell? ⟨gb333, 1, none⟩ = some (.slice A332_1 ((rd_T26 l0 x43_3).f1).length c332_1) ∧ w'.cell? (ad334.add (x43_3).toNat) = some (.int .i64 (rd l1 x43_3))) (ds := []) #[f_,f_,f_,f_,f_,f_,f_,f_] (by kernel_rfl) rfl rfl ⟨(blk_cell BK333.out 0).trans rfl, (blk_cell BK333.out 1).trans rfl, (bc_ HB.out hw334_0 :)⟩ (fun hHeld => ?_); refine with_tabW impl_WorstPins.tab15 impl_WorstPins.bits15 (fun HT_ HW_ => ?_)
            generalize w30.drew = w31 at HO_10 BK333 HB hx334_0 hHeld ⊢
            refine pu_ 1 49 #[f_,t_,f_,f_,f_,f_,f_,f_] HT_.out ?_
            refine pu_ 2 50 #[f_,t_,t_,f_,f_,f_,f_,f_] HT_.out ?_
            refine pu_ 3 51 #[f_,t_,t_,t_,f_,f_,f_,f_] HT_.out ?_
            refine pu_ 5 53 #[f_,t_,t_,t_,f_,t_,f_,f_] HT_.out ?_
            refine take_ (i := 0) (N := some 48) (v := ?_) (a' := ?_) #[t_,t_,t_,t_,f_,t_,f_,f_] rfl rfl (take_ofW HT_.out HW_.out (by kernel_rfl)) (fun _ _ _ h => h) (Or.inl ⟨by rfl, ?_⟩) hHeld ?_ ?_
            rotate_left
            ·rintro w' ⟨s0, s1, s2⟩
             go_simp
             with_reducible rfl
            rotate_left
            ·simp only [pz_]
             rfl
            refine take_ (i := 4) (N := some 52) (v := ?_) (a' := ?_) #[t_,t_,t_,t_,t_,t_,f_,f_] rfl rfl (take_ofW HT_.out HW_.out (by kernel_rfl)) (fun _ _ _ h => h) (Or.inl ⟨by rfl, ?_⟩) hHeld ?_ ?_
            rotate_left
            ·rintro w' ⟨s0, s1, s2⟩
             go_simp
             with_reducible rfl
            rotate_left
            ·simp only [pz_]
             rfl
            refine one_ (i := 6) (N := some 54) #[t_,t_,t_,t_,t_,t_,t_,f_] rfl rfl (one_of HT_.out (by kernel_rfl)) (by decide) (fun K hK => ?_)
            refine goes_ Try.func102 (by kernel_rfl) rfl #[.agg #[.int .i64 ((rd_T26 l0 x43_3).f0), .slice A332_1 ((rd_T26 l0 x43_3).f1).length c332_1], .int .i64 (rd l1 x43_3), .int .i64 a2] (by rfl) rfl rfl ag_ ?_
            with_reducible refine (impl_stateOf.calls k3 ((rd_T26 l0 x43_3).f0) _ _ ((rd_T26 l0 x43_3).f1) (rd l1 x43_3) a2 t335 _ ?side1 ?side2 A26.out).mono ?_
            (case side1 => exact r8_ HR332_1.out HB.out)
            (case side2 => exact HC332_1.out)
            rintro e w32 ⟨rfl, hb⟩
            refine ⟨_, rfl, ?_⟩
            replace HO_10 := Aside0.mk (Kd.R_below (rk_ HO_10.out) hb)
            replace BK333 := Aside0.mk (blk_below (g := gb333) (o := .cells #[.int .i64 ((rd_T26 l0 x43_3).f0), .slice A332_1 ((rd_T26 l0 x43_3).f1).length c332_1] 26 (0, 0)) (r0_ BK333.out) hb)
            replace HB := Aside0.mk (below_step (r1_ HB.out GE333.out) hb)
            (try clear hb)
            (try clear hb2)
            (try clear hk)
            (try clear hi)
            refine hK.out _ _ ⟨(blk_cell BK333.out 0).trans rfl, (blk_cell BK333.out 1).trans rfl, (bc_ HB.out hw334_0 :)⟩ (fun hHeld => ?_)
            clear hK K
            refine norm_ (a' := ?_) ?_ ?_
            rotate_left
            ·show Act.put _ (some 54) _ = _
             simp only [pz_]
             rfl
            refine pu_ 7 55 #[t_,t_,t_,t_,t_,t_,t_,t_] HT_.out ?_
            refine done_ (done_of HT_.out (by kernel_rfl)) ?_
            try go_wp2
            go_roundg k3
            case measure => have := HK1.out; have := HJ15.out; have := HK3.out; omega
            case rel => exact ⟨(x10_3), (wrap64 (x43_3 + 1)), (by first | rfl | (simp; done) | (simp [*]; done)), H', ⟨by have := HK1.out; have := HJ15.out; have := HK3.out; omega⟩, ⟨rk_ HO_10.out⟩, ⟨r1_ HB.out GE333.out⟩⟩
           ·rw [if_neg c27] at H
            have c27b0 : (t335 == 0) = false := beq_eq_false_iff_ne.mpr c27
            have c27b1 : (t335 != 0) = true := bne_iff_ne.mpr c27
            by_cases c33 : x10_3.length < 17592186044416
            case neg =>
             rw [if_neg c33] at H
             exact absurd H (by simp)
            rw [if_pos c33] at H
            have LMc33 := Aside0.mk c33
            clear c33
            obtain ⟨y336, hy336⟩ : ∃ y_ : List Int, y_ = (x10_3 ++ [x43_3]) := ⟨_, rfl⟩
            replace H : (impl_WorstPins.l1 k3 l1 a2 y336 l0 (l0.length : Int) (wrap64 (x43_3 + 1))) = some (r1, r2) := by first | (rw [hy336]; with_reducible exact H) | (have H2_ := (Option.bind_some _ _).symm.trans H; rw [hy336]; with_reducible exact H2_) | (have H2_ := (Option.bind_some _ _).symm.trans H; with_reducible exact H2_) | with_reducible exact H | (rw [hy336]; exact H) | exact H
            have Ny336 := Aside0.mk hy336
            clear hy336
            have H' := Aside0.mk H
            clear H
            have p332 : 0 ≤ (x43_3 : Int) := od_
            have q332 : x43_3 < (l0.length : Int) := od_
            obtain ⟨ad332, A332_1, c332_1, e332, hx332_0, hx332_1, hl332_1, hi332_1⟩ := at_T26 HR0.out x43_3 p332 q332
            cases e332
            replace hx332_0 := bc_ HB.out hx332_0
            replace hx332_1 := bc_ HB.out hx332_1
            have HR332_1 := Aside0.mk hi332_1
            have HC332_1 := Aside0.mk hl332_1
            clear hi332_1 hl332_1
            replace p332 := eq_true p332
            replace q332 := eq_true q332
            try go_wp2_with (first | ((with_reducible refine gate_dst (N := 12) rfl ?_); refine box_event ?hg (N := 12) ?hd (cs := #[.int .i64 0, .slice none 0 0]) (t := 26) ?hr ?_; (case hd => rfl); (case hg => rfl); (case hr => first | (go_simp; done) | (go_simp; rfl)); intro gb333 hg w34 hbox hb; replace HO_10 := Aside0.mk (Kd.R_below (rk_ HO_10.out) hb); have BK333 := Aside0.mk (hbox); have GW333 := Aside0.mk ((by rw [hg]; exact (below_size (bl_ HB.out)) : w.heap.size ≤ gb333)); have GE333 := Aside0.mk ((by rw [hg]; exact (below_size (bl_ HB.out)) : w.heap.size ≤ gb333)); replace HB := Aside0.mk (below_step (bl_ HB.out) hb); clear hb hbox hg; have hcz35_0 : w34.cell? ⟨gb333, 0, none⟩ = some (.int .i64 0) := (blk_cell BK333.out 0).trans rfl; have hcz35_1 : w34.cell? ⟨gb333, 1, none⟩ = some (.slice none 0 0) := (blk_cell BK333.out 1).trans rfl; have hfz35_0 := blk_frozen BK333.out 0; have hfz35_1 := blk_frozen BK333.out 1))
            have n0_ : Aside0 (Kd.R (Kd.int .i64) 2 ((w34.setCell ⟨gb333, 0, none⟩ (.int .i64 ((rd_T26 l0 x43_3).f0))).setCell ⟨gb333, 1, none⟩ (.slice A332_1 ((rd_T26 l0 x43_3).f1).length c332_1)) w.heap.size (fun _ => True) u10 x10_3) := ⟨rk_ (Kd.R_mono (Kd.R_far (p := ⟨gb333, 1, none⟩) (Kd.R_far (p := ⟨gb333, 0, none⟩) (Kd.R_types HO_10.out BK333.out (by decide)) (fun _ hk => hk.2) (.int .i64 ((rd_T26 l0 x43_3).f0))) (fun _ hk => hk.2) (.slice A332_1 ((rd_T26 l0 x43_3).f1).length c332_1)) (fun _ hk => trivial))⟩
            have n1_ : Aside0 (((w34.setCell ⟨gb333, 0, none⟩ (.int .i64 ((rd_T26 l0 x43_3).f0))).setCell ⟨gb333, 1, none⟩ (.slice A332_1 ((rd_T26 l0 x43_3).f1).length c332_1)).heap[gb333]? = some (.cells #[.int .i64 ((rd_T26 l0 x43_3).f0), .slice A332_1 ((rd_T26 l0 x43_3).f1).length c332_1] 26 (0, 0))) := ⟨by (with_reducible repeat (first | refine blk_drewN ?_ _ | refine blk_drew ?_ | refine blk_alloc ?_ _)); refine blk_put (cs := #[.int .i64 ((rd_T26 l0 x43_3).f0), .slice none 0 0]) ?_ 1 _ rfl; (with_reducible repeat (first | refine blk_drewN ?_ _ | refine blk_drew ?_ | refine blk_alloc ?_ _)); refine blk_put (cs := #[.int .i64 0, .slice none 0 0]) ?_ 0 _ rfl; (with_reducible repeat (first | refine blk_drewN ?_ _ | refine blk_drew ?_ | refine blk_alloc ?_ _)); exact BK333.out⟩
            have n2_ : Aside0 (Below w.heap.size w ((w34.setCell ⟨gb333, 0, none⟩ (.int .i64 ((rd_T26 l0 x43_3).f0))).setCell ⟨gb333, 1, none⟩ (.slice A332_1 ((rd_T26 l0 x43_3).f1).length c332_1))) := ⟨r1_ HB.out GE333.out⟩
            (try clear HO_10)
            (try clear BK333)
            (try clear HB)
            generalize ((w34.setCell ⟨gb333, 0, none⟩ (.int .i64 ((rd_T26 l0 x43_3).f0))).setCell ⟨gb333, 1, none⟩ (.slice A332_1 ((rd_T26 l0 x43_3).f1).length c332_1)) = w36 at n0_ n1_ n2_ ⊢
            have HO_10 := n0_
            have BK333 := n1_
            have HB := n2_
            clear n0_ n1_ n2_
            replace HO_10 := Aside0.mk (Kd.R_drew HO_10.out)
            replace BK333 := Aside0.mk (blk_drew BK333.out)
            replace HB := Aside0.mk (below_drew1 HB.out)
            have p334 : 0 ≤ (x43_3 : Int) := od_
            have q334 : x43_3 < (l1.length : Int) := od_
            obtain ⟨ad334, e334, hx334_0⟩ := Kd.at_int HR1.out x43_3 p334 q334
            have hw334_0 := hx334_0
            cases e334
            replace hx334_0 := bc_ HB.out hx334_0
            replace p334 := eq_true p334
            replace q334 := eq_true q334
            refine start_ (n := 8) (S := fun w' => w'.cell? ⟨gb333, 0, none⟩ = some (.int .i64 ((rd_T26 l0 x43_3).f0)) ∧ w'.cell? ⟨gb333, 1, none⟩ = some (.slice A332_1 ((rd_T26 l0 x43_3).f1).length c332_1) ∧ w'.cell? (ad334.add (x43_3).toNat) = some (.int .i64 (rd l1 x43_3))) (ds := []) #[f_,f_,f_,f_,f_,f_,f_,f_] (by kernel_rfl) rfl rfl ⟨(blk_cell BK333.out 0).trans rfl, (blk_cell BK333.out 1).trans rfl, (bc_ HB.out hw334_0 :)⟩ (fun hHeld => ?_); refine with_tabW impl_WorstPins.tab15 impl_WorstPins.bits15 (fun HT_ HW_ => ?_)
            generalize w36.drew = w37 at HO_10 BK333 HB hx334_0 hHeld ⊢
            refine pu_ 1 49 #[f_,t_,f_,f_,f_,f_,f_,f_] HT_.out ?_
            refine pu_ 2 50 #[f_,t_,t_,f_,f_,f_,f_,f_] HT_.out ?_
            refine pu_ 3 51 #[f_,t_,t_,t_,f_,f_,f_,f_] HT_.out ?_
            refine pu_ 5 53 #[f_,t_,t_,t_,f_,t_,f_,f_] HT_.out ?_
            refine take_ (i := 0) (N := some 48) (v := ?_) (a' := ?_) #[t_,t_,t_,t_,f_,t_,f_,f_] rfl rfl (take_ofW HT_.out HW_.out (by kernel_rfl)) (fun _ _ _ h => h) (Or.inl ⟨by rfl, ?_⟩) hHeld ?_ ?_
            rotate_left
            ·rintro w' ⟨s0, s1, s2⟩
             go_simp
             with_reducible rfl
            rotate_left
            ·simp only [pz_]
             rfl
            refine take_ (i := 4) (N := some 52) (v := ?_) (a' := ?_) #[t_,t_,t_,t_,t_,t_,f_,f_] rfl rfl (take_ofW HT_.out HW_.out (by kernel_rfl)) (fun _ _ _ h => h) (Or.inl ⟨by rfl, ?_⟩) hHeld ?_ ?_
            rotate_left
            ·rintro w' ⟨s0, s1, s2⟩
             go_simp
             with_reducible rfl
            rotate_left
            ·simp only [pz_]
             rfl
            refine one_ (i := 6) (N := some 54) #[t_,t_,t_,t_,t_,t_,t_,f_] rfl rfl (one_of HT_.out (by kernel_rfl)) (by decide) (fun K hK => ?_)
            refine goes_ Try.func102 (by kernel_rfl) rfl #[.agg #[.int .i64 ((rd_T26 l0 x43_3).f0), .slice A332_1 ((rd_T26 l0 x43_3).f1).length c332_1], .int .i64 (rd l1 x43_3), .int .i64 a2] (by rfl) rfl rfl ag_ ?_
            with_reducible refine (impl_stateOf.calls k3 ((rd_T26 l0 x43_3).f0) _ _ ((rd_T26 l0 x43_3).f1) (rd l1 x43_3) a2 t335 _ ?side1 ?side2 A26.out).mono ?_
            (case side1 => exact r8_ HR332_1.out HB.out)
            (case side2 => exact HC332_1.out)
            rintro e w38 ⟨rfl, hb⟩
            refine ⟨_, rfl, ?_⟩
            replace HO_10 := Aside0.mk (Kd.R_below (rk_ HO_10.out) hb)
            replace BK333 := Aside0.mk (blk_below (g := gb333) (o := .cells #[.int .i64 ((rd_T26 l0 x43_3).f0), .slice A332_1 ((rd_T26 l0 x43_3).f1).length c332_1] 26 (0, 0)) (r0_ BK333.out) hb)
            replace HB := Aside0.mk (below_step (r1_ HB.out GE333.out) hb)
            (try clear hb)
            (try clear hb2)
            (try clear hk)
            (try clear hi)
            refine hK.out _ _ ⟨(blk_cell BK333.out 0).trans rfl, (blk_cell BK333.out 1).trans rfl, (bc_ HB.out hw334_0 :)⟩ (fun hHeld => ?_)
            clear hK K
            refine norm_ (a' := ?_) ?_ ?_
            rotate_left
            ·show Act.put _ (some 54) _ = _
             simp only [pz_]
             rfl
            refine pu_ 7 55 #[t_,t_,t_,t_,t_,t_,t_,t_] HT_.out ?_
            refine done_ (done_of HT_.out (by kernel_rfl)) ?_
            try go_wp2_with (first | ((with_reducible refine gate_builtin (b := .append) (xs := #[.tmp 56, .tmp 58]) rfl ?_); at_builtin; refine Kd.R_append (Kd.int .i64) (w0 := w) w.heap.size rfl (.tmp 56) (.tmp 58) 24 2 (.int .i64 0) 8 rfl Try.underlying24 info2 rfl (by decide) (by omega) u10 x10_3 x43_3 [.int .i64 x43_3] (fun _ => True) (fun _ => False) rfl rfl ?aP (fun _ hk => hk.elim) ?aF ?aO ?aB ?aS ?aL ?_; (case aP => exact rfl); (case aB => exact (r1_ HB.out GE333.out)); (case aF => exact (fun _ _ => trivial)); (case aO => exact (rk_ HO_10.out)); (case aS => exact (below_size (r1_ HB.out GE333.out))); (case aL => have := LMc33.out; omega); intro v337 w39 ho hb hg hat; rw [← Ny336.out] at ho; have n0_ := Aside0.mk (blk_grown (g := gb333) (o := .cells #[.int .i64 ((rd_T26 l0 x43_3).f0), .slice A332_1 ((rd_T26 l0 x43_3).f1).length c332_1] 26 (0, 0)) (r0_ BK333.out) hg (Kd.R_ne HO_10.out BK333.out (by decide))); have n1_ := Aside0.mk (hb); have n2_ := Aside0.mk (ho); clear BK333; clear HB; clear HO_10; have BK333 := n0_; have HB := n1_; have HO338 := n2_; clear n0_ n1_ n2_; clear ho hb hg hat))
            go_roundg k3
            case measure => have := HK1.out; have := HJ15.out; have := HK3.out; omega
            case rel => exact ⟨(y336), (wrap64 (x43_3 + 1)), (by first | rfl | (simp; done) | (simp [*]; done)), H', ⟨by have := HK1.out; have := HJ15.out; have := HK3.out; omega⟩, ⟨rk_ HO338.out⟩, ⟨r1_ HB.out GE333.out⟩⟩
          ·rw [if_neg c22] at H
           have c22b0 : decide (x43_3 < (l0.length : Int)) = false := decide_eq_false c22
           clear c22
           simp only [Option.some.injEq, Prod.mk.injEq] at H
           obtain ⟨rfl, rfl⟩ := H
           go_wp2
           go_ret2
           exact ⟨_, by first | rfl | (simp [errW_none, errW_some] <;> rfl) | (simp [*, errW_none, errW_some] <;> rfl), rk_ HO_10.out, bl_ HB.out⟩
end Go.Proofs.Ytmahecjbejffoaa.PFnCircuits
