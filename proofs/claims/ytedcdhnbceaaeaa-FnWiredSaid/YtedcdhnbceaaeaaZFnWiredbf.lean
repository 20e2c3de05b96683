/- QFnWiredi of the law FnWired: taken over, declaration by declaration, as far as the law leans on it (the words and the printed functions are the kit's own print). No condition but what each says. -/
import Derived.Test.YtedcdhnbceaaeaaZFnWiredav
import Derived.Test.YtedcdhnbceaaeaaZFnWiredaw
import Derived.Test.YtedcdhnbceaaeaaZFnWiredax
import Derived.Test.YtedcdhnbceaaeaaZFnWiredaz
import Derived.Test.YtedcdhnbceaaeaaZFnWiredba
import Derived.Test.YtedcdhnbceaaeaaZFnWiredbc
namespace Go.Proofs.Ytedcdhnbceaaeaa.PFnWired
open Go.RowKit Go.Proofs.YtedcdhnbceaaeaaW.PrintWords Go.Proofs.YtedcdhnbceaaeaaW.PrintLast Go.Proofs.YtedcdhnbceaaeaaW.PrintMore
attribute [local go_sem] max2_int min2_int max_two min_two max_three min_three max_four min_four   -- for this text's walks alone
set_option linter.unusedVariables false
set_option linter.unusedSimpArgs false
open Bool renaming true → t_, false → f_
def spec_DrawFreePins.f (k : Nat) (l0 : List Int) : Option ((List (S200)) × Int × (List (S160)) × Int) := (spec_l01From.f k l0).bind fun bt530 => ((spec_l13Draw.f k bt530.1 bt530.2.1 bt530.2.2).bind fun bt534 => ((spec_l01Next.f bt530.1 bt534.2.2.2.1 bt534.2.2.2.2 (wrap64 ((bt534.1.length : Int) + 1))).bind fun bt543 => ((spec_l01Next.f bt530.1 bt543.2.1 bt543.2.2 24).bind fun bt546 => (some (bt534.1, bt534.2.1, bt534.2.2.1, wrap64 (bt543.1 - (wrap64 (Int.tdiv bt546.1 23))))))))
set_option maxHeartbeats 8000000 in
set_option maxRecDepth 100000 in
theorem spec_DrawFreePins.calls (k : Nat) (A0 : Option Addr) (c0 : Nat) (l0 : List Int) (r1 : List (S200)) (r2 : Int) (r3 : List (S160)) (r4 : Int) (w : World) (hr0 : Kd.C (Kd.int .u8) w A0 l0.length l0) (hc0 : l0.length ≤ c0) (h : spec_DrawFreePins.f k l0 = some (r1, r2, r3, r4)) :
  Calls Try.prog 138 #[.slice A0 l0.length c0] w fun e w' => ∃ v0_ v2_ : Value, e = .returned (.tuple #[v0_, .int .i64 r2, v2_, .int .i64 r4]) ∧ Kd.R k200 200 w' w.heap.size (fun _ => True) v0_ r1 ∧ Kd.R k160 160 w' w.heap.size (fun _ => True) v2_ r3 ∧ Below w.heap.size w w' := by
 have HR0 := Aside0.mk hr0
 have HC0 := Aside0.mk hc0
 clear hr0 hc0
 have HB := Aside0.mk (Below.refl w.heap.size w)
 have H : ((spec_l01From.f k l0).bind fun bt530 => ((spec_l13Draw.f k bt530.1 bt530.2.1 bt530.2.2).bind fun bt534 => ((spec_l01Next.f bt530.1 bt534.2.2.2.1 bt534.2.2.2.2 (wrap64 ((bt534.1.length : Int) + 1))).bind fun bt543 => ((spec_l01Next.f bt530.1 bt543.2.1 bt543.2.2 24).bind fun bt546 => (some (bt534.1, bt534.2.1, bt534.2.2.1, wrap64 (bt543.1 - (wrap64 (Int.tdiv bt546.1 23))))))))) = some (r1, r2, r3, r4) := h
 clear h
 replace H := Option.bind_eq_some_iff.mp H
 obtain ⟨⟨t530, t531, t532⟩, A20, H⟩ := H
 replace H : ((spec_l13Draw.f k t530 t531 t532).bind fun bt534 => ((spec_l01Next.f t530 bt534.2.2.2.1 bt534.2.2.2.2 (wrap64 ((bt534.1.length : Int) + 1))).bind fun bt543 => ((spec_l01Next.f t530 bt543.2.1 bt543.2.2 24).bind fun bt546 => (some (bt534.1, bt534.2.1, bt534.2.2.1, wrap64 (bt543.1 - (wrap64 (Int.tdiv bt546.1 23)))))))) = some (r1, r2, r3, r4) := H
 have A2 := Aside0.mk A20
 clear A20
 replace H := Option.bind_eq_some_iff.mp H
 obtain ⟨⟨t534, t537, t538, t541, t542⟩, A30, H⟩ := H
 replace H : ((spec_l01Next.f t530 t541 t542 (wrap64 ((t534.length : Int) + 1))).bind fun bt543 => ((spec_l01Next.f t530 bt543.2.1 bt543.2.2 24).bind fun bt546 => (some (t534, t537, t538, wrap64 (bt543.1 - (wrap64 (Int.tdiv bt546.1 23))))))) = some (r1, r2, r3, r4) := H
 have A3 := Aside0.mk A30
 clear A30
 replace H := Option.bind_eq_some_iff.mp H
 obtain ⟨⟨t543, t544, t545⟩, A40, H⟩ := H
 replace H : ((spec_l01Next.f t530 t544 t545 24).bind fun bt546 => (some (t534, t537, t538, wrap64 (t543 - (wrap64 (Int.tdiv bt546.1 23)))))) = some (r1, r2, r3, r4) := H
 have A4 := Aside0.mk A40
 clear A40
 replace H := Option.bind_eq_some_iff.mp H
 obtain ⟨⟨t546, t547, t548⟩, A50, H⟩ := H
 replace H : (some (t534, t537, t538, wrap64 (t543 - (wrap64 (Int.tdiv t546 23))))) = some (r1, r2, r3, r4) := H
 have A5 := Aside0.mk A50
 clear A50
 simp only [Option.some.injEq, Prod.mk.injEq] at H
 obtain ⟨rfl, rfl, rfl, rfl⟩ := H
 go_enter Try.func138, Try.ntmps138
 go_wp2_with (first | ((with_reducible refine gate_callee (f := 123) rfl ?_); refine goesL_ (some 11) rfl rfl Try.func123 (by kernel_rfl) rfl #[.slice A0 l0.length c0] rfl ag_ ?_; (with_reducible refine (spec_l01From.calls k _ _ l0 t530 t531 t532 w _ ?side1 ?side2 ?side3 A2.out).mono ?_); (case side1 => exact r11_ HB.out); (case side2 => exact HR0.out); (case side3 => exact HC0.out); rintro e w6 ⟨g533, rfl, hi, hb, hb2⟩; refine ⟨_, rfl, ?_⟩; replace HB := Aside0.mk (hb); have HI533 := Aside0.mk (hi); (try clear hb); (try clear hb2); (try clear hk); (try clear hi)) | ((with_reducible refine gate_callee (f := 122) rfl ?_); refine goesL_ (some 14) rfl rfl Try.func122 (by kernel_rfl) rfl #[.pointer (some ⟨g533, 0, none⟩)] rfl ag_ ?_; (with_reducible refine (spec_l13Draw.calls k g533 t530 t531 t532 t534 t537 t538 t541 t542 w _ ?side1 ?side2 A3.out).mono ?_); (case side1 => exact r0_ HI533.out); (case side2 => exact r1_ HB.out HI533.out); rintro e w7 ⟨v535, v539, rfl, ho0, ho1, hi, hb, hk⟩; refine ⟨_, rfl, ?_⟩; have HO536 := Aside0.mk (Kd.R_lower ho0 (below_size (r1_ HB.out HI533.out))); have HO540 := Aside0.mk (Kd.R_lower ho1 (below_size (r1_ HB.out HI533.out))); replace HB := Aside0.mk (hb); replace HI533 := Aside0.mk (hi); (try clear hb); (try clear hb2); (try clear hk); (try clear hi); (try clear ho0); (try clear ho1); obtain ⟨Ao8, co8, eo8⟩ := Kd.R_slice HO536.out; subst eo8) | ((with_reducible refine gate_callee (f := 129) rfl ?_); refine goesL_ (some 25) rfl rfl Try.func129 (by kernel_rfl) rfl #[.pointer (some ⟨g533, 0, none⟩), .int .i64 (wrap64 ((t534.length : Int) + 1))] rfl ag_ ?_; (with_reducible refine (spec_l01Next.calls g533 t530 t541 t542 (wrap64 ((t534.length : Int) + 1)) t543 t544 t545 w _ ?side1 ?side2 A4.out).mono ?_); (case side1 => exact r0_ HI533.out); (case side2 => exact r1_ HB.out HI533.out); rintro e w9 ⟨rfl, hi, hb, hk⟩; refine ⟨_, rfl, ?_⟩; replace HO536 := Aside0.mk (Kd.R_mono (Kd.R_keep (IsS215.apart (show IsS215 w _ g533 t530 t541 t542 from r0_ HI533.out) (rk_ HO536.out) (by decide)) hk (fun _ h => h.2)) (fun _ h => h.1)); replace HO540 := Aside0.mk (Kd.R_mono (Kd.R_keep (IsS215.apart (show IsS215 w _ g533 t530 t541 t542 from r0_ HI533.out) (rk_ HO540.out) (by decide)) hk (fun _ h => h.2)) (fun _ h => h.1)); replace HB := Aside0.mk (hb); replace HI533 := Aside0.mk (hi); (try clear hb); (try clear hb2); (try clear hk); (try clear hi)) | ((with_reducible refine gate_callee (f := 129) rfl ?_); refine goesL_ (some 27) rfl rfl Try.func129 (by kernel_rfl) rfl #[.pointer (some ⟨g533, 0, none⟩), .int .i64 24] rfl ag_ ?_; (with_reducible refine (spec_l01Next.calls g533 t530 t544 t545 24 t546 t547 t548 w _ ?side1 ?side2 A5.out).mono ?_); (case side1 => exact r0_ HI533.out); (case side2 => exact r1_ HB.out HI533.out); rintro e w10 ⟨rfl, hi, hb, hk⟩; refine ⟨_, rfl, ?_⟩; replace HO536 := Aside0.mk (Kd.R_mono (Kd.R_keep (IsS215.apart (show IsS215 w _ g533 t530 t544 t545 from r0_ HI533.out) (rk_ HO536.out) (by decide)) hk (fun _ h => h.2)) (fun _ h => h.1)); replace HO540 := Aside0.mk (Kd.R_mono (Kd.R_keep (IsS215.apart (show IsS215 w _ g533 t530 t544 t545 from r0_ HI533.out) (rk_ HO540.out) (by decide)) hk (fun _ h => h.2)) (fun _ h => h.1)); replace HB := Aside0.mk (hb); replace HI533 := Aside0.mk (hi); (try clear hb); (try clear hb2); (try clear hk); (try clear hi)))
 refine bodyPost_ret (results_list (rs := [.tmp 2, .tmp 3, .tmp 4, .tmp 5]) rfl (by simp) (.tmp (.tmp (.tmp (.tmp .nil))))) rfl ?_
 exact ⟨_, _, by first | rfl | (simp [errW_none, errW_some] <;> rfl) | (simp [*, errW_none, errW_some] <;> rfl), rk_ HO536.out, rk_ HO540.out, r1_ HB.out HI533.out⟩
def spec_DrawCuesBelow.f (k : Nat) (l0 : List Int) : Option ((List (S200)) × Int × (List (S160)) × Int) := (spec_DrawFreePins.f k l0).bind fun bt549 => (some (bt549.1, bt549.2.1, bt549.2.2.1, bt549.2.2.2))
set_option maxHeartbeats 8000000 in
set_option maxRecDepth 100000 in
theorem spec_DrawCuesBelow.calls (k : Nat) (A0 : Option Addr) (c0 : Nat) (l0 : List Int) (r1 : List (S200)) (r2 : Int) (r3 : List (S160)) (r4 : Int) (w : World) (hr0 : Kd.C (Kd.int .u8) w A0 l0.length l0) (hc0 : l0.length ≤ c0) (h : spec_DrawCuesBelow.f k l0 = some (r1, r2, r3, r4)) :
    Calls Try.prog 39 #[.slice A0 l0.length c0] w fun e w' => ∃ v0_ v2_ : Value, e = .returned (.tuple #[v0_, .int .i64 r2, v2_, .int .i64 r4]) ∧ Kd.R k200 200 w' w.heap.size (fun _ => True) v0_ r1 ∧ Kd.R k160 160 w' w.heap.size (fun _ => True) v2_ r3 ∧ Below w.heap.size w w' := by
  have HR0 := Aside0.mk hr0
  have HC0 := Aside0.mk hc0
  clear hr0 hc0
  have HB := Aside0.mk (Below.refl w.heap.size w)
  have H : ((spec_DrawFreePins.f k l0).bind fun bt549 => (some (bt549.1, bt549.2.1, bt549.2.2.1, bt549.2.2.2))) = some (r1, r2, r3, r4) := h
  clear h
  replace H := Option.bind_eq_some_iff.mp H
  obtain ⟨⟨t549, t550, t551, t552⟩, A20, H⟩ := H
  replace H : (some (t549, t550, t551, t552)) = some (r1, r2, r3, r4) := H
  have A2 := Aside0.mk A20
  clear A20
  simp only [Option.some.injEq, Prod.mk.injEq] at H
  obtain ⟨rfl, rfl, rfl, rfl⟩ := H
  go_enter Try.func39, Try.ntmps39
  go_wp2_with (first | ((with_reducible refine gate_callee (f := 138) rfl ?_); refine goesL_ (some 7) rfl rfl Try.func138 (by kernel_rfl) rfl #[.slice A0 l0.length c0] rfl ag_ ?_; (with_reducible refine (spec_DrawFreePins.calls k _ _ l0 t549 t550 t551 t552 _ ?side1 ?side2 A2.out).mono ?_); (case side1 => exact r9_ HR0.out); (case side2 => exact HC0.out); rintro e w3 ⟨v553, v555, rfl, ho0, ho1, hb⟩; refine ⟨_, rfl, ?_⟩; have HO554 := Aside0.mk (Kd.R_lower ho0 (below_size (bl_ HB.out))); have HO556 := Aside0.mk (Kd.R_lower ho1 (below_size (bl_ HB.out))); replace HB := Aside0.mk (below_step (bl_ HB.out) hb); (try clear hb); (try clear hb2); (try clear hk); (try clear hi); (try clear ho0); (try clear ho1)))
  refine bodyPost_ret (results_list (rs := [.tmp 2, .tmp 3, .tmp 4, .tmp 5]) rfl (by simp) (.tmp (.tmp (.tmp (.tmp .nil))))) rfl ?_
  exact ⟨_, _, by first | rfl | (simp [errW_none, errW_some] <;> rfl) | (simp [*, errW_none, errW_some] <;> rfl), rk_ HO554.out, rk_ HO556.out, bl_ HB.out⟩
def impl_isBelow.l0 : Nat → List Bool → List (S200) → Int → Int → Option (List Bool)
 | 0, _, _, _, _ => none
 | k + 1, x5, x14, x15, x16 => if x16 < x15 then (if 0 ≤ x16 then (if x16 < (x14.length : Int) then (if ((rd_T200 x14 x16).f0) ≥ 0 then (if 0 ≤ ((rd_T200 x14 x16).f0) then (if ((rd_T200 x14 x16).f0) < (x5.length : Int) then (if rdOf false x5 ((rd_T200 x14 x16).f0) = true then (if x16 < (x5.length : Int) then (impl_isBelow.l0 k (x5.set (x16 : Int).toNat true) x14 x15 (wrap64 (x16 + 1))) else (none)) else (impl_isBelow.l0 k x5 x14 x15 (wrap64 (x16 + 1)))) else (none)) else (none)) else (impl_isBelow.l0 k x5 x14 x15 (wrap64 (x16 + 1)))) else (none)) else (none)) else (some x5)
def impl_isBelow.f (k : Nat) (l0 : List (S200)) (a1 : Int) : Option (List Bool) := if 0 ≤ (l0.length : Int) then (if ((l0.length : Int) : Int).toNat ≤ 281474976710656 then ((some (List.replicate ((l0.length : Int) : Int).toNat false : List Bool)).bind fun y557 => (if 0 ≤ a1 then (if a1 < (y557.length : Int) then (impl_isBelow.l0 k (y557.set (a1 : Int).toNat true) l0 (l0.length : Int) 0) else (none)) else (none))) else (none)) else (none)
set_option maxHeartbeats 8000000 in
set_option maxRecDepth 100000 in
theorem impl_isBelow.calls (k : Nat) (A0 : Option Addr) (c0 : Nat) (l0 : List (S200)) (a1 : Int) (r : List Bool) (w : World) (hr0 : Kd.C k200 w A0 l0.length l0) (hc0 : l0.length ≤ c0) (h : impl_isBelow.f k l0 a1 = some r) :
  Calls Try.prog 140 #[.slice A0 l0.length c0, .int .i64 a1] w fun e w' => ∃ v0_ : Value, e = .returned (v0_) ∧ Kd.R Kd.bool 4 w' w.heap.size (fun _ => True) v0_ r ∧ Below w.heap.size w w' := by
 have hu200 := Try.underlying200
 have HR0 := Aside0.mk hr0
 have HC0 := Aside0.mk hc0
 clear hr0 hc0
 have HB := Aside0.mk (Below.refl w.heap.size w)
 have H : (if 0 ≤ (l0.length : Int) then (if ((l0.length : Int) : Int).toNat ≤ 281474976710656 then ((some (List.replicate ((l0.length : Int) : Int).toNat false : List Bool)).bind fun y557 => (if 0 ≤ a1 then (if a1 < (y557.length : Int) then (impl_isBelow.l0 k (y557.set (a1 : Int).toNat true) l0 (l0.length : Int) 0) else (none)) else (none))) else (none)) else (none)) = some r := h
 clear h
 by_cases c3 : 0 ≤ (l0.length : Int)
 case neg =>
  rw [if_neg c3] at H
  exact absurd H (by simp)


 rw [if_pos c3] at H
 have c3b0 := eq_true c3
 have c3b1 : decide (0 ≤ (l0.length : Int)) = true := decide_eq_true c3
 clear c3
 by_cases c4 : ((l0.length : Int) : Int).toNat ≤ 281474976710656
 case neg =>
  rw [if_neg c4] at H
  exact absurd H (by simp)
 rw [if_pos c4] at H
 have c4b0 := eq_true c4
 have c4b1 : decide (((l0.length : Int) : Int).toNat ≤ 281474976710656) = true := decide_eq_true c4
 clear c4
 obtain ⟨y557, hy557⟩ : ∃ y_ : List Bool, y_ = (List.replicate ((l0.length : Int) : Int).toNat false) := ⟨_, rfl⟩
 replace H : (if 0 ≤ a1 then (if a1 < (y557.length : Int) then (impl_isBelow.l0 k (y557.set (a1 : Int).toNat true) l0 (l0.length : Int) 0) else (none)) else (none)) = some r := by first | (rw [hy557]; with_reducible exact H) | (have H2_ := (Option.bind_some _ _).symm.trans H; rw [hy557]; with_reducible exact H2_) | (have H2_ := (Option.bind_some _ _).symm.trans H; with_reducible exact H2_) | with_reducible exact H | (rw [hy557]; exact H) | exact H
 have Ny557 := Aside0.mk hy557
 clear hy557
 by_cases c5 : 0 ≤ a1
 case neg =>
  rw [if_neg c5] at H
  exact absurd H (by simp)
 rw [if_pos c5] at H
 have c5b0 : decide (0 ≤ a1) = true := decide_eq_true c5
 clear c5
 by_cases c6 : a1 < (y557.length : Int)
 case neg =>
  rw [if_neg c6] at H
  exact absurd H (by simp)
 rw [if_pos c6] at H
 have c6b0 : decide (a1 < (y557.length : Int)) = true := decide_eq_true c6
 clear c6
 obtain ⟨y560, hy560⟩ : ∃ y_ : List Bool, y_ = (y557.set (a1 : Int).toNat true) := ⟨_, rfl⟩
 replace H : (impl_isBelow.l0 k y560 l0 (l0.length : Int) 0) = some r := by first | (rw [hy560]; with_reducible exact H) | (have H2_ := (Option.bind_some _ _).symm.trans H; rw [hy560]; with_reducible exact H2_) | (have H2_ := (Option.bind_some _ _).symm.trans H; with_reducible exact H2_) | with_reducible exact H | (rw [hy560]; exact H) | exact H
 have Ny560 := Aside0.mk hy560
 clear hy560
 have H' := Aside0.mk H
 clear H
 go_enter Try.func140, Try.ntmps140
 go_wp2_with (first | ((with_reducible refine gate_dst (N := 10) rfl ?_); refine Kd.R_make Kd.bool _ 4 rfl (N := 10) rfl 164 _ _ rfl (l0.length : Int) rfl rfl Try.underlying164 (.bool false) 1 info4 rfl (by decide) (by omega) false (ok := fun _ => True) (okp := fun _ => True) rfl (fun _ hk => hk) trivial od_ (Nat.le_trans (Nat.mul_le_mul_right _ (od_ : (l0.length : Int).toNat ≤ 281474976710656)) (by omega)) (Below.refl _ _) (Nat.le_refl _) ?_; intro v558 w8 ho9 hb hg_ hnew_; clear hg_ hnew_; (first | rw [← Ny557.out] at ho9 | (simp only [Int.reduceToNat] at ho9; rw [← Ny557.out] at ho9)); have HO559 := Aside0.mk (Kd.R_lower ho9 (below_size (bl_ HB.out))); replace HB := Aside0.mk (below_step (bl_ HB.out) hb); clear hb ho9; have p7 : 0 ≤ (a1 : Int) := od_; have q7 : (a1 : Int) < ((y557.length : Int) : Int) := od_; obtain ⟨go7, co7, eo7, gb7, gl7, cl7, HG7⟩ := Kd.R_form HO559.out (by omega); (first | cases eo7 | (injection eo7 with ea_ en_ ec_; (first | subst ea_ | (injection ea_ with ea_; subst ea_)); subst ec_; clear en_)); have GB7 := Aside0.mk gb7; have GG7 := Aside0.mk HG7; clear gb7 gl7 HG7; obtain ⟨hx7_0, hf7_0⟩ := Kd.R_celln false HO559.out (a1 : Int) p7 q7; replace p7 := eq_true p7; replace q7 := eq_true q7; obtain ⟨hy10_, hz10_⟩ := Kd.R_celln false HO559.out (a1 : Int) od_ od_; have HP10 := Kd.R_putg HO559.out (a1 : Int) true) | ((with_reducible refine gate_store (t := 4) (p := 13) rfl ?_); refine store_event (t := 4) (p := 13) (v := ?vo_w11) (w1 := (w8.setCell ⟨go7, (a1 : Int).toNat, none⟩ (.bool true))) ?hg ?ho ?hn ?hr ?_; (case ho => rfl); (case hg => rfl); (case hn => rfl); (case hr => first | (go_simp; done) | (go_simp; rfl)); intro w11 hw; have hg : w8.grownBy w11 (some go7) := (by rw [hw]; exact HP10.2); have hp_ : Kd.R Kd.bool 4 w11 w.heap.size (fun _ => True) (.slice (some ⟨go7, 0, none⟩) y557.length co7) y560 := (by rw [hw, Ny560.out]; exact HP10.1); clear HP10; replace HO559 := Aside0.mk (hp_); replace HB := Aside0.mk ((by rw [hw]; exact below_set (HB.out) GB7.out : Below w.heap.size w w11)); clear hg hw hp_))
 go_loopg [16] k (fun kq v16 w' => ∃ (x5_1 : List Bool) (x16_1 : Int), v16 = .int .i64 x16_1 ∧ Aside0 (impl_isBelow.l0 kq x5_1 l0 (l0.length : Int) x16_1 = some r) ∧ Aside0 (kq ≤ k) ∧ Aside0 (Kd.R Kd.bool 4 w' w.heap.size (fun _ => True) (.slice (some ⟨go7, 0, none⟩) y557.length co7) x5_1) ∧ Aside0 (Below w.heap.size w w'))
 case atStart => exact ⟨(y560), (0), (by first | rfl | (simp; done) | (simp [*]; done)), H', ⟨Nat.le_refl _⟩, ⟨rk_ HO559.out⟩, ⟨bl_ HB.out⟩⟩
 case round =>
  clear H'
  try clear c1
  try clear p2
  try clear c3
  try clear c3b0
  try clear c3b1
  try clear c4
  try clear c4b0
  try clear c4b1
  try clear c5
  try clear c5b0
  try clear c6
  try clear c6b0
  try clear p7
  try clear q7
  try clear hx7
  try clear hf7
  try clear hx7_0
  try clear p7
  try clear q7
  obtain ⟨x5_1, x16_1, rfl, HA, HK1, HO_5, HB⟩ := hrel
  have hl5_1 := (Kd.R_reads' HO_5.out).1
  rw [hl5_1] at HO_5
  (try simp only [hl5_1])
  cases gk with
  | zero => exact absurd HA.out (by simp [impl_isBelow.l0])
  | succ k1 =>
   have H := HA.out
   clear HA
   simp only [impl_isBelow.l0] at H
   by_cases c12 : x16_1 < (l0.length : Int)
   ·rw [if_pos c12] at H
    have c12b0 : decide (x16_1 < (l0.length : Int)) = true := decide_eq_true c12
    clear c12
    by_cases c13 : 0 ≤ x16_1
    case neg =>
     rw [if_neg c13] at H
     exact absurd H (by simp)
    rw [if_pos c13] at H
    have c13b0 : decide (0 ≤ x16_1) = true := decide_eq_true c13
    clear c13
    by_cases c14 : x16_1 < (l0.length : Int)
    case neg =>
     rw [if_neg c14] at H
     exact absurd H (by simp)
    rw [if_pos c14] at H
    have c14b0 : decide (x16_1 < (l0.length : Int)) = true := decide_eq_true c14
    clear c14
    by_cases c15 : ((rd_T200 l0 x16_1).f0) ≥ 0
    ·rw [if_pos c15] at H
     have c15b0 : decide (0 ≤ ((rd_T200 l0 x16_1).f0)) = true := decide_eq_true c15
     clear c15
     by_cases c16 : 0 ≤ ((rd_T200 l0 x16_1).f0)
     case neg =>
      rw [if_neg c16] at H
      exact absurd H (by simp)
     rw [if_pos c16] at H
     have c16b0 : decide (0 ≤ ((rd_T200 l0 x16_1).f0)) = true := decide_eq_true c16
     clear c16
     by_cases c17 : ((rd_T200 l0 x16_1).f0) < (x5_1.length : Int)
     case neg =>
      rw [if_neg c17] at H
      exact absurd H (by simp)
     rw [if_pos c17] at H
     have c17b0 : decide (((rd_T200 l0 x16_1).f0) < (x5_1.length : Int)) = true := decide_eq_true c17
     clear c17
     obtain ⟨bq18, hbq18⟩ : ∃ b_ : Bool, b_ = (rdOf false x5_1 ((rd_T200 l0 x16_1).f0)) := ⟨_, rfl⟩
     replace H : (if bq18 = true then (if x16_1 < (x5_1.length : Int) then (impl_isBelow.l0 k1 (x5_1.set (x16_1 : Int).toNat true) l0 (l0.length : Int) (wrap64 (x16_1 + 1))) else (none)) else (impl_isBelow.l0 k1 x5_1 l0 (l0.length : Int) (wrap64 (x16_1 + 1)))) = some r := by rw [← hbq18] at H; exact H
     have Nbq18 := Aside0.mk hbq18
     clear hbq18
     by_cases c19 : bq18 = true
     ·subst c19
      replace H : (if x16_1 < (x5_1.length : Int) then (impl_isBelow.l0 k1 (x5_1.set (x16_1 : Int).toNat true) l0 (l0.length : Int) (wrap64 (x16_1 + 1))) else (none)) = some r := by rw [if_pos rfl] at H; exact H
      by_cases c20 : x16_1 < (x5_1.length : Int)
      case neg =>
       rw [if_neg c20] at H
       exact absurd H (by simp)
      rw [if_pos c20] at H
      have c20b0 : decide (x16_1 < (x5_1.length : Int)) = true := decide_eq_true c20
      clear c20
      obtain ⟨y564, hy564⟩ : ∃ y_ : List Bool, y_ = (x5_1.set (x16_1 : Int).toNat true) := ⟨_, rfl⟩
      replace H : (impl_isBelow.l0 k1 y564 l0 (l0.length : Int) (wrap64 (x16_1 + 1))) = some r := by first | (rw [hy564]; with_reducible exact H) | (have H2_ := (Option.bind_some _ _).symm.trans H; rw [hy564]; with_reducible exact H2_) | (have H2_ := (Option.bind_some _ _).symm.trans H; with_reducible exact H2_) | with_reducible exact H | (rw [hy564]; exact H) | exact H
      have Ny564 := Aside0.mk hy564
      clear hy564
      have H' := Aside0.mk H
      clear H
      have p561 : 0 ≤ (x16_1 : Int) := od_
      have q561 : x16_1 < (l0.length : Int) := od_
      obtain ⟨ad561, e561, hx561_0, hx561_1⟩ := at_T200 HR0.out x16_1 p561 q561
      cases e561
      replace hx561_0 := bc_ HB.out hx561_0
      replace hx561_1 := bc_ HB.out hx561_1
      replace p561 := eq_true p561
      replace q561 := eq_true q561
      go_wp2_with (first | ((with_reducible refine gate_dst (N := 7) rfl ?_); refine box_event ?hg (N := 7) ?hd (cs := #[.int .i64 0, .int .i64 0]) (t := 200) ?hr ?_; (case hd => rfl); (case hg => rfl); (case hr => first | (go_simp; done) | (go_simp; rfl)); intro gb562 hg w22 hbox hb; replace HO_5 := Aside0.mk (Kd.R_below (rk_ HO_5.out) hb); have BK562 := Aside0.mk (hbox); have GW562 := Aside0.mk ((by rw [hg]; exact (below_size (bl_ HB.out)) : w.heap.size ≤ gb562)); have GE562 := Aside0.mk ((by rw [hg]; exact (below_size (bl_ HB.out)) : w.heap.size ≤ gb562)); replace HB := Aside0.mk (below_step (bl_ HB.out) hb); clear hb hbox hg; have hcz23_0 : w22.cell? ⟨gb562, 0, none⟩ = some (.int .i64 0) := (blk_cell BK562.out 0).trans rfl; have hcz23_1 : w22.cell? ⟨gb562, 1, none⟩ = some (.int .i64 0) := (blk_cell BK562.out 1).trans rfl; have hfz23_0 := blk_frozen BK562.out 0; have hfz23_1 := blk_frozen BK562.out 1) | ((with_reducible refine gate_store (t := 200) (p := 7) rfl ?_); refine store_event (t := 200) (p := 7) (v := ?vo_w24) (w1 := ((w22.setCell ⟨gb562, 0, none⟩ (.int .i64 ((rd_T200 l0 x16_1).f0))).setCell ⟨gb562, 1, none⟩ (.int .i64 ((rd_T200 l0 x16_1).f1)))) ?hg ?ho ?hn ?hr ?_; (case ho => rfl); (case hg => rfl); (case hn => rfl); (case hr => first | (go_simp; done) | (go_simp; rfl)); intro w24 hw; have n0_ : Aside0 (Kd.R Kd.bool 4 w24 w.heap.size (fun _ => True) (.slice (some ⟨go7, 0, none⟩) x5_1.length co7) x5_1) := ⟨(by rw [hw]; exact (rk_ (Kd.R_mono (Kd.R_far (p := ⟨gb562, 1, none⟩) (Kd.R_far (p := ⟨gb562, 0, none⟩) (Kd.R_types HO_5.out BK562.out (by decide)) (fun _ hk => hk.2) (.int .i64 ((rd_T200 l0 x16_1).f0))) (fun _ hk => hk.2) (.int .i64 ((rd_T200 l0 x16_1).f1))) (fun _ hk => trivial))))⟩; have n1_ : Aside0 (w24.heap[gb562]? = some (.cells #[.int .i64 ((rd_T200 l0 x16_1).f0), .int .i64 ((rd_T200 l0 x16_1).f1)] 200 (0, 0))) := ⟨(by rw [hw]; exact (by (with_reducible repeat (first | refine blk_drewN ?_ _ | refine blk_drew ?_ | refine blk_alloc ?_ _)); refine blk_put (cs := #[.int .i64 ((rd_T200 l0 x16_1).f0), .int .i64 0]) ?_ 1 _ rfl; (with_reducible repeat (first | refine blk_drewN ?_ _ | refine blk_drew ?_ | refine blk_alloc ?_ _)); refine blk_put (cs := #[.int .i64 0, .int .i64 0]) ?_ 0 _ rfl; (with_reducible repeat (first | refine blk_drewN ?_ _ | refine blk_drew ?_ | refine blk_alloc ?_ _)); exact BK562.out))⟩; have n2_ : Aside0 (Below w.heap.size w w24) := ⟨(by rw [hw]; exact (r4_ HB.out GE562.out))⟩; clear hw; clear HO_5; clear BK562; clear HB; have HO_5 := n0_; have BK562 := n1_; have HB := n2_; clear n0_ n1_ n2_; have hcz25_0 : w24.cell? ⟨gb562, 0, none⟩ = some (.int .i64 ((rd_T200 l0 x16_1).f0)) := (blk_cell BK562.out 0).trans rfl; have hcz25_1 : w24.cell? ⟨gb562, 1, none⟩ = some (.int .i64 ((rd_T200 l0 x16_1).f1)) := (blk_cell BK562.out 1).trans rfl; have hfz25_0 := blk_frozen BK562.out 0; have hfz25_1 := blk_frozen BK562.out 1; have p563 : 0 ≤ (((rd_T200 l0 x16_1).f0) : Int) := od_; have q563 : ((rd_T200 l0 x16_1).f0) < (x5_1.length : Int) := od_; obtain ⟨ad563, e563, hx563_0⟩ := Kd.at_bool (Kd.R_reads' HO_5.out).2.2 ((rd_T200 l0 x16_1).f0) p563 q563; (try rw [← Nbq18.out] at hx563_0); obtain rfl : (⟨go7, 0, none⟩ : Addr) = ad563 := (by injection e563); (first | simp only [add_plain] at hx563_0 | simp only [add_at] at hx563_0 | simp only [Addr.add, Nat.zero_add] at hx563_0 | skip); replace p563 := eq_true p563; replace q563 := eq_true q563; have p21 : 0 ≤ (x16_1 : Int) := od_; have q21 : (x16_1 : Int) < ((x5_1.length : Int) : Int) := od_; obtain ⟨hx21_0, hf21_0⟩ := Kd.R_celln false HO_5.out (x16_1 : Int) p21 q21; replace p21 := eq_true p21; replace q21 := eq_true q21; obtain ⟨hy26_, hz26_⟩ := Kd.R_celln false HO_5.out (x16_1 : Int) od_ od_; have HP26 := Kd.R_putg HO_5.out (x16_1 : Int) true) | ((with_reducible refine gate_store (t := 4) (p := 33) rfl ?_); refine store_event (t := 4) (p := 33) (v := ?vo_w27) (w1 := (w24.setCell ⟨go7, (x16_1 : Int).toNat, none⟩ (.bool true))) ?hg ?ho ?hn ?hr ?_; (case ho => rfl); (case hg => rfl); (case hn => rfl); (case hr => first | (go_simp; done) | (go_simp; rfl)); intro w27 hw; have hg : w24.grownBy w27 (some go7) := (by rw [hw]; exact HP26.2); have hp_ : Kd.R Kd.bool 4 w27 w.heap.size (fun _ => True) (.slice (some ⟨go7, 0, none⟩) x5_1.length co7) y564 := (by rw [hw, Ny564.out]; exact HP26.1); clear HP26; replace BK562 := Aside0.mk (blk_grown (g := gb562) (o := .cells #[.int .i64 ((rd_T200 l0 x16_1).f0), .int .i64 ((rd_T200 l0 x16_1).f1)] 200 (0, 0)) (r2_ BK562.out) hg (Kd.R_ne HO_5.out BK562.out (by decide))); replace HO_5 := Aside0.mk (hp_); replace HB := Aside0.mk ((by rw [hw]; exact below_set (HB.out) GB7.out : Below w.heap.size w w27)); clear hg hw hp_))
      (try simp only [← hl5_1])
      go_roundg k1
      case measure => have := HK1.out; omega
      case rel => exact ⟨(y564), (wrap64 (x16_1 + 1)), (by first | rfl | (simp; done) | (simp [*]; done)), H', ⟨by have := HK1.out; omega⟩, ⟨by (try simp only [hl5_1]); (with_reducible repeat (first | apply Kd.R_alloc | apply Kd.R_drewN | apply Kd.R_drew)); exact HO_5.out⟩, ⟨r4_ HB.out GE562.out⟩⟩
     ·replace c19 := Bool.eq_false_iff.mpr c19
      subst c19
      replace H : (impl_isBelow.l0 k1 x5_1 l0 (l0.length : Int) (wrap64 (x16_1 + 1))) = some r := by rw [if_neg (show ¬ (false = true) by decide)] at H; exact H
      have H' := Aside0.mk H
      clear H
      have p561 : 0 ≤ (x16_1 : Int) := od_
      have q561 : x16_1 < (l0.length : Int) := od_
      obtain ⟨ad561, e561, hx561_0, hx561_1⟩ := at_T200 HR0.out x16_1 p561 q561
      cases e561
      replace hx561_0 := bc_ HB.out hx561_0
      replace hx561_1 := bc_ HB.out hx561_1
      replace p561 := eq_true p561
      replace q561 := eq_true q561
      go_wp2_with (first | ((with_reducible refine gate_dst (N := 7) rfl ?_); refine box_event ?hg (N := 7) ?hd (cs := #[.int .i64 0, .int .i64 0]) (t := 200) ?hr ?_; (case hd => rfl); (case hg => rfl); (case hr => first | (go_simp; done) | (go_simp; rfl)); intro gb562 hg w22 hbox hb; replace HO_5 := Aside0.mk (Kd.R_below (rk_ HO_5.out) hb); have BK562 := Aside0.mk (hbox); have GW562 := Aside0.mk ((by rw [hg]; exact (below_size (bl_ HB.out)) : w.heap.size ≤ gb562)); have GE562 := Aside0.mk ((by rw [hg]; exact (below_size (bl_ HB.out)) : w.heap.size ≤ gb562)); replace HB := Aside0.mk (below_step (bl_ HB.out) hb); clear hb hbox hg; have hcz23_0 : w22.cell? ⟨gb562, 0, none⟩ = some (.int .i64 0) := (blk_cell BK562.out 0).trans rfl; have hcz23_1 : w22.cell? ⟨gb562, 1, none⟩ = some (.int .i64 0) := (blk_cell BK562.out 1).trans rfl; have hfz23_0 := blk_frozen BK562.out 0; have hfz23_1 := blk_frozen BK562.out 1) | ((with_reducible refine gate_store (t := 200) (p := 7) rfl ?_); refine store_event (t := 200) (p := 7) (v := ?vo_w24) (w1 := ((w22.setCell ⟨gb562, 0, none⟩ (.int .i64 ((rd_T200 l0 x16_1).f0))).setCell ⟨gb562, 1, none⟩ (.int .i64 ((rd_T200 l0 x16_1).f1)))) ?hg ?ho ?hn ?hr ?_; (case ho => rfl); (case hg => rfl); (case hn => rfl); (case hr => first | (go_simp; done) | (go_simp; rfl)); intro w24 hw; have n0_ : Aside0 (Kd.R Kd.bool 4 w24 w.heap.size (fun _ => True) (.slice (some ⟨go7, 0, none⟩) x5_1.length co7) x5_1) := ⟨(by rw [hw]; exact (rk_ (Kd.R_mono (Kd.R_far (p := ⟨gb562, 1, none⟩) (Kd.R_far (p := ⟨gb562, 0, none⟩) (Kd.R_types HO_5.out BK562.out (by decide)) (fun _ hk => hk.2) (.int .i64 ((rd_T200 l0 x16_1).f0))) (fun _ hk => hk.2) (.int .i64 ((rd_T200 l0 x16_1).f1))) (fun _ hk => trivial))))⟩; have n1_ : Aside0 (w24.heap[gb562]? = some (.cells #[.int .i64 ((rd_T200 l0 x16_1).f0), .int .i64 ((rd_T200 l0 x16_1).f1)] 200 (0, 0))) := ⟨(by rw [hw]; exact (by (with_reducible repeat (first | refine blk_drewN ?_ _ | refine blk_drew ?_ | refine blk_alloc ?_ _)); refine blk_put (cs := #[.int .i64 ((rd_T200 l0 x16_1).f0), .int .i64 0]) ?_ 1 _ rfl; (with_reducible repeat (first | refine blk_drewN ?_ _ | refine blk_drew ?_ | refine blk_alloc ?_ _)); refine blk_put (cs := #[.int .i64 0, .int .i64 0]) ?_ 0 _ rfl; (with_reducible repeat (first | refine blk_drewN ?_ _ | refine blk_drew ?_ | refine blk_alloc ?_ _)); exact BK562.out))⟩; have n2_ : Aside0 (Below w.heap.size w w24) := ⟨(by rw [hw]; exact (r4_ HB.out GE562.out))⟩; clear hw; clear HO_5; clear BK562; clear HB; have HO_5 := n0_; have BK562 := n1_; have HB := n2_; clear n0_ n1_ n2_; have hcz25_0 : w24.cell? ⟨gb562, 0, none⟩ = some (.int .i64 ((rd_T200 l0 x16_1).f0)) := (blk_cell BK562.out 0).trans rfl; have hcz25_1 : w24.cell? ⟨gb562, 1, none⟩ = some (.int .i64 ((rd_T200 l0 x16_1).f1)) := (blk_cell BK562.out 1).trans rfl; have hfz25_0 := blk_frozen BK562.out 0; have hfz25_1 := blk_frozen BK562.out 1; have p563 : 0 ≤ (((rd_T200 l0 x16_1).f0) : Int) := od_; have q563 : ((rd_T200 l0 x16_1).f0) < (x5_1.length : Int) := od_; obtain ⟨ad563, e563, hx563_0⟩ := Kd.at_bool (Kd.R_reads' HO_5.out).2.2 ((rd_T200 l0 x16_1).f0) p563 q563; (try rw [← Nbq18.out] at hx563_0); obtain rfl : (⟨go7, 0, none⟩ : Addr) = ad563 := (by injection e563); (first | simp only [add_plain] at hx563_0 | simp only [add_at] at hx563_0 | simp only [Addr.add, Nat.zero_add] at hx563_0 | skip); replace p563 := eq_true p563; replace q563 := eq_true q563))
      (try simp only [← hl5_1])
      go_roundg k1
      case measure => have := HK1.out; omega
      case rel => exact ⟨(x5_1), (wrap64 (x16_1 + 1)), (by first | rfl | (simp; done) | (simp [*]; done)), H', ⟨by have := HK1.out; omega⟩, ⟨by (try simp only [hl5_1]); (with_reducible repeat (first | apply Kd.R_alloc | apply Kd.R_drewN | apply Kd.R_drew)); exact HO_5.out⟩, ⟨r4_ HB.out GE562.out⟩⟩
    ·rw [if_neg c15] at H
     have c15b0 : decide (0 ≤ ((rd_T200 l0 x16_1).f0)) = false := decide_eq_false c15
     clear c15
     have H' := Aside0.mk H
     clear H
     have p561 : 0 ≤ (x16_1 : Int) := od_
     have q561 : x16_1 < (l0.length : Int) := od_
     obtain ⟨ad561, e561, hx561_0, hx561_1⟩ := at_T200 HR0.out x16_1 p561 q561
     cases e561
     replace hx561_0 := bc_ HB.out hx561_0
     replace hx561_1 := bc_ HB.out hx561_1
     replace p561 := eq_true p561
     replace q561 := eq_true q561
     go_wp2_with (first | ((with_reducible refine gate_dst (N := 7) rfl ?_); refine box_event ?hg (N := 7) ?hd (cs := #[.int .i64 0, .int .i64 0]) (t := 200) ?hr ?_; (case hd => rfl); (case hg => rfl); (case hr => first | (go_simp; done) | (go_simp; rfl)); intro gb562 hg w30 hbox hb; replace HO_5 := Aside0.mk (Kd.R_below (rk_ HO_5.out) hb); have BK562 := Aside0.mk (hbox); have GW562 := Aside0.mk ((by rw [hg]; exact (below_size (bl_ HB.out)) : w.heap.size ≤ gb562)); have GE562 := Aside0.mk ((by rw [hg]; exact (below_size (bl_ HB.out)) : w.heap.size ≤ gb562)); replace HB := Aside0.mk (below_step (bl_ HB.out) hb); clear hb hbox hg; have hcz31_0 : w30.cell? ⟨gb562, 0, none⟩ = some (.int .i64 0) := (blk_cell BK562.out 0).trans rfl; have hcz31_1 : w30.cell? ⟨gb562, 1, none⟩ = some (.int .i64 0) := (blk_cell BK562.out 1).trans rfl; have hfz31_0 := blk_frozen BK562.out 0; have hfz31_1 := blk_frozen BK562.out 1))
     (try simp only [← hl5_1])
     go_roundg k1
     case measure => have := HK1.out; omega
     case rel => exact ⟨(x5_1), (wrap64 (x16_1 + 1)), (by first | rfl | (simp; done) | (simp [*]; done)), H', ⟨by have := HK1.out; omega⟩, ⟨by (try simp only [hl5_1]); (with_reducible repeat (first | apply Kd.R_alloc | apply Kd.R_drewN | apply Kd.R_drew)); exact Kd.R_mono (Kd.R_far (p := ⟨gb562, 1, none⟩) (Kd.R_far (p := ⟨gb562, 0, none⟩) (Kd.R_types HO_5.out BK562.out (by decide)) (fun _ hk => hk.2) (.int .i64 ((rd_T200 l0 x16_1).f0))) (fun _ hk => hk.2) (.int .i64 ((rd_T200 l0 x16_1).f1))) (fun _ hk => trivial)⟩, ⟨r4_ HB.out GE562.out⟩⟩
   ·rw [if_neg c12] at H
    have c12b0 : decide (x16_1 < (l0.length : Int)) = false := decide_eq_false c12
    clear c12
    obtain rfl := Option.some.inj H
    go_wp2
    go_ret
    exact ⟨_, by first | rfl | (simp [errW_none, errW_some] <;> rfl) | (simp [*, errW_none, errW_some] <;> rfl), rk_ HO_5.out, bl_ HB.out⟩
def impl_CuesBelow.l0 : Nat → List Bool → List Int → List (S160) → Int → Int → Option (List Int × Int)
 | 0, _, _, _, _, _ => none
 | k + 1, x10, x11, x27, x28, x29 => if x29 < x28 then (if 0 ≤ x29 then (if x29 < (x27.length : Int) then (if 0 ≤ ((rd_T160 x27 x29).f1) then (if ((rd_T160 x27 x29).f1) < (x10.length : Int) then (if rdOf false x10 ((rd_T160 x27 x29).f1) = true then (if x11.length < 17592186044416 then (impl_CuesBelow.l0 k x10 (x11 ++ [(rd_T160 x27 x29).f0]) x27 x28 (wrap64 (x29 + 1))) else (none)) else (impl_CuesBelow.l0 k x10 x11 x27 x28 (wrap64 (x29 + 1)))) else (none)) else (none)) else (none)) else (none)) else (some (x11, 0))
def impl_CuesBelow.f (k : Nat) (l0 : List (S200)) (a1 : Int) (l2 : List (S160)) (a3 : Int) : Option (List Int × Int) := (impl_AreWires.f k l0 a1 l2).bind fun t565 => (if t565 = true then ((impl_isIndex.f a3 (l0.length : Int)).bind fun t566 => (if t566 = true then ((impl_isBelow.f k l0 a3).bind fun t567 => (impl_CuesBelow.l0 k t567 ([] : List Int) l2 (l2.length : Int) 0)) else (some (([] : List Int), 2)))) else (some (([] : List Int), 1)))
set_option maxHeartbeats 8000000 in
set_option maxRecDepth 100000 in
theorem impl_CuesBelow.calls (k : Nat) (A0 : Option Addr) (c0 : Nat) (l0 : List (S200)) (a1 : Int) (A2 : Option Addr) (c2 : Nat) (l2 : List (S160)) (a3 : Int) (r1 : List Int) (r2 : Int) (w : World) (hr0 : Kd.C k200 w A0 l0.length l0) (hc0 : l0.length ≤ c0) (hr2 : Kd.C k160 w A2 l2.length l2) (hc2 : l2.length ≤ c2) (h : impl_CuesBelow.f k l0 a1 l2 a3 = some (r1, r2)) :
  Calls Try.prog 40 #[.slice A0 l0.length c0, .int .i64 a1, .slice A2 l2.length c2, .int .i64 a3] w fun e w' => ∃ v0_ : Value, e = .returned (.tuple #[v0_, .int .i64 r2]) ∧ Kd.R (Kd.int .i64) 2 w' w.heap.size (fun _ => True) v0_ r1 ∧ Below w.heap.size w w' := by
 have hu160 := Try.underlying160
 have HR0 := Aside0.mk hr0
 have HC0 := Aside0.mk hc0
 clear hr0 hc0
 have HR2 := Aside0.mk hr2
 have HC2 := Aside0.mk hc2
 clear hr2 hc2
 have HB := Aside0.mk (Below.refl w.heap.size w)
 have H : ((impl_AreWires.f k l0 a1 l2).bind fun t565 => (if t565 = true then ((impl_isIndex.f a3 (l0.length : Int)).bind fun t566 => (if t566 = true then ((impl_isBelow.f k l0 a3).bind fun t567 => (impl_CuesBelow.l0 k t567 ([] : List Int) l2 (l2.length : Int) 0)) else (some (([] : List Int), 2)))) else (some (([] : List Int), 1)))) = some (r1, r2) := h
 clear h
 replace H := Option.bind_eq_some_iff.mp H
 obtain ⟨t565, A50, H⟩ := H
 replace H : (if t565 = true then ((impl_isIndex.f a3 (l0.length : Int)).bind fun t566 => (if t566 = true then ((impl_isBelow.f k l0 a3).bind fun t567 => (impl_CuesBelow.l0 k t567 ([] : List Int) l2 (l2.length : Int) 0)) else (some (([] : List Int), 2)))) else (some (([] : List Int), 1))) = some (r1, r2) := H
 have A5 := Aside0.mk A50
 clear A50
 by_cases c6 : t565 = true
 ·subst c6
  replace H : ((impl_isIndex.f a3 (l0.length : Int)).bind fun t566 => (if t566 = true then ((impl_isBelow.f k l0 a3).bind fun t567 => (impl_CuesBelow.l0 k t567 ([] : List Int) l2 (l2.length : Int) 0)) else (some (([] : List Int), 2)))) = some (r1, r2) := by rw [if_pos rfl] at H; exact H
  replace H := Option.bind_eq_some_iff.mp H
  obtain ⟨t566, A70, H⟩ := H
  replace H : (if t566 = true then ((impl_isBelow.f k l0 a3).bind fun t567 => (impl_CuesBelow.l0 k t567 ([] : List Int) l2 (l2.length : Int) 0)) else (some (([] : List Int), 2))) = some (r1, r2) := H
  have A7 := Aside0.mk A70
  clear A70
  by_cases c8 : t566 = true
  ·subst c8
   replace H : ((impl_isBelow.f k l0 a3).bind fun t567 => (impl_CuesBelow.l0 k t567 ([] : List Int) l2 (l2.length : Int) 0)) = some (r1, r2) := by rw [if_pos rfl] at H; exact H
   replace H := Option.bind_eq_some_iff.mp H
   obtain ⟨t567, A90, H⟩ := H
   replace H : (impl_CuesBelow.l0 k t567 ([] : List Int) l2 (l2.length : Int) 0) = some (r1, r2) := H
   have A9 := Aside0.mk A90
   clear A90
   have H' := Aside0.mk H
   clear H
   go_enter Try.func40, Try.ntmps40
   go_wp2_with (first | ((with_reducible refine gate_callee (f := 44) rfl ?_); refine goesL_ (some 17) rfl rfl Try.func44 (by kernel_rfl) rfl #[.slice A0 l0.length c0, .int .i64 a1, .slice A2 l2.length c2] rfl ag_ ?_; (with_reducible refine (impl_AreWires.calls k _ _ l0 a1 _ _ l2 true _ ?side1 ?side2 ?side3 ?side4 A5.out).mono ?_); (case side1 => exact r9_ HR0.out); (case side2 => exact HC0.out); (case side3 => exact r9_ HR2.out); (case side4 => exact HC2.out); rintro e w10 ⟨rfl, hb⟩; refine ⟨_, rfl, ?_⟩; replace HB := Aside0.mk (below_step (bl_ HB.out) hb); (try clear hb); (try clear hb2); (try clear hk); (try clear hi)) | ((with_reducible refine gate_callee (f := 139) rfl ?_); refine goesL_ (some 22) rfl rfl Try.func139 (by kernel_rfl) rfl #[.int .i64 a3, .int .i64 (l0.length : Int)] rfl ag_ ?_; (with_reducible refine (impl_isIndex.calls a3 (l0.length : Int) true _ A7.out).mono ?_); rintro e w' ⟨rfl, ⟨nd, rfl⟩⟩; refine ⟨_, rfl, ?_⟩) | ((with_reducible refine gate_callee (f := 140) rfl ?_); refine goesL_ (some 26) rfl rfl Try.func140 (by kernel_rfl) rfl #[.slice A0 l0.length c0, .int .i64 a3] rfl ag_ ?_; (with_reducible refine (impl_isBelow.calls k _ _ l0 a3 t567 _ ?side1 ?side2 A9.out).mono ?_); (case side1 => exact r13_ HR0.out HB.out); (case side2 => exact HC0.out); rintro e w11 ⟨v568, rfl, ho0, hb⟩; refine ⟨_, rfl, ?_⟩; have HO569 := Aside0.mk (Kd.R_lower ho0 (below_size (bl_ HB.out))); replace HB := Aside0.mk (below_step (bl_ HB.out) hb); (try clear hb); (try clear hb2); (try clear hk); (try clear hi); (try clear ho0)))
   go_loopg [11, 29] k (fun kq v11 v29 w' => ∃ (x11_1 : List Int) (x29_1 : Int), v29 = .int .i64 x29_1 ∧ Aside0 (impl_CuesBelow.l0 kq t567 x11_1 l2 (l2.length : Int) x29_1 = some (r1, r2)) ∧ Aside0 (kq ≤ k) ∧ Aside0 (Kd.R Kd.bool 4 w' w.heap.size (fun _ => True) v568 t567) ∧ Aside0 (Kd.R (Kd.int .i64) 2 w' w.heap.size (fun _ => True) v11 x11_1) ∧ Aside0 (Below w.heap.size w w'))
   case atStart => exact ⟨(([] : List Int)), (0), (by first | rfl | (simp; done) | (simp [*]; done)), H', ⟨Nat.le_refl _⟩, ⟨rk_ HO569.out⟩, ⟨by first | exact Kd.R_nil _ _ _ _ _ | exact Kd.N_nil _ _ _ _ _ | exact Kd.V_nil _ _ _ _ _ | exact Kd.Q_nil _ _ _ _ _ | exact Kd.S_nil _ _ _ _ _⟩, ⟨bl_ HB.out⟩⟩
   case round =>
    clear H'
    try clear c1
    try clear c2
    try clear p2
    try clear c4
    try clear c6
    try clear c8
    obtain ⟨x11_1, x29_1, rfl, HA, HK1, HO_10, HO_11, HB⟩ := hrel
    cases gk with
    | zero => exact absurd HA.out (by simp [impl_CuesBelow.l0])
    | succ k1 =>
     have H := HA.out
     clear HA
     simp only [impl_CuesBelow.l0] at H
     by_cases c12 : x29_1 < (l2.length : Int)
     ·rw [if_pos c12] at H
      have c12b0 : decide (x29_1 < (l2.length : Int)) = true := decide_eq_true c12
      clear c12
      by_cases c13 : 0 ≤ x29_1
      case neg =>
       rw [if_neg c13] at H
       exact absurd H (by simp)
      rw [if_pos c13] at H
      have c13b0 : decide (0 ≤ x29_1) = true := decide_eq_true c13
      clear c13
      by_cases c14 : x29_1 < (l2.length : Int)
      case neg =>
       rw [if_neg c14] at H
       exact absurd H (by simp)
      rw [if_pos c14] at H
      have c14b0 : decide (x29_1 < (l2.length : Int)) = true := decide_eq_true c14
      clear c14
      by_cases c15 : 0 ≤ ((rd_T160 l2 x29_1).f1)
      case neg =>
       rw [if_neg c15] at H
       exact absurd H (by simp)
      rw [if_pos c15] at H
      have c15b0 : decide (0 ≤ ((rd_T160 l2 x29_1).f1)) = true := decide_eq_true c15
      clear c15
      by_cases c16 : ((rd_T160 l2 x29_1).f1) < (t567.length : Int)
      case neg =>
       rw [if_neg c16] at H
       exact absurd H (by simp)
      rw [if_pos c16] at H
      have c16b0 : decide (((rd_T160 l2 x29_1).f1) < (t567.length : Int)) = true := decide_eq_true c16
      clear c16
      obtain ⟨bq17, hbq17⟩ : ∃ b_ : Bool, b_ = (rdOf false t567 ((rd_T160 l2 x29_1).f1)) := ⟨_, rfl⟩
      replace H : (if bq17 = true then (if x11_1.length < 17592186044416 then (impl_CuesBelow.l0 k1 t567 (x11_1 ++ [(rd_T160 l2 x29_1).f0]) l2 (l2.length : Int) (wrap64 (x29_1 + 1))) else (none)) else (impl_CuesBelow.l0 k1 t567 x11_1 l2 (l2.length : Int) (wrap64 (x29_1 + 1)))) = some (r1, r2) := by rw [← hbq17] at H; exact H
      have Nbq17 := Aside0.mk hbq17
      clear hbq17
      by_cases c18 : bq17 = true
      ·subst c18
       replace H : (if x11_1.length < 17592186044416 then (impl_CuesBelow.l0 k1 t567 (x11_1 ++ [(rd_T160 l2 x29_1).f0]) l2 (l2.length : Int) (wrap64 (x29_1 + 1))) else (none)) = some (r1, r2) := by rw [if_pos rfl] at H; exact H
       by_cases c19 : x11_1.length < 17592186044416
       case neg =>
        rw [if_neg c19] at H
        exact absurd H (by simp)
       rw [if_pos c19] at H
       have LMc19 := Aside0.mk c19
       clear c19
       obtain ⟨y573, hy573⟩ : ∃ y_ : List Int, y_ = (x11_1 ++ [(rd_T160 l2 x29_1).f0]) := ⟨_, rfl⟩
       replace H : (impl_CuesBelow.l0 k1 t567 y573 l2 (l2.length : Int) (wrap64 (x29_1 + 1))) = some (r1, r2) := by first | (rw [hy573]; with_reducible exact H) | (have H2_ := (Option.bind_some _ _).symm.trans H; rw [hy573]; with_reducible exact H2_) | (have H2_ := (Option.bind_some _ _).symm.trans H; with_reducible exact H2_) | with_reducible exact H | (rw [hy573]; exact H) | exact H
       have Ny573 := Aside0.mk hy573
       clear hy573
       have H' := Aside0.mk H
       clear H
       have p570 : 0 ≤ (x29_1 : Int) := od_
       have q570 : x29_1 < (l2.length : Int) := od_
       obtain ⟨ad570, e570, hx570_0, hx570_1, hx570_2⟩ := at_T160 HR2.out x29_1 p570 q570
       cases e570
       replace hx570_0 := bc_ HB.out hx570_0
       replace hx570_1 := bc_ HB.out hx570_1
       replace hx570_2 := bc_ HB.out hx570_2
       replace p570 := eq_true p570
       replace q570 := eq_true q570
       go_wp2_with (first | ((with_reducible refine gate_dst (N := 13) rfl ?_); refine box_event ?hg (N := 13) ?hd (cs := #[.int .i64 0, .int .i64 0, .int .i64 0]) (t := 160) ?hr ?_; (case hd => rfl); (case hg => rfl); (case hr => first | (go_simp; done) | (go_simp; rfl)); intro gb571 hg w20 hbox hb; replace HO_10 := Aside0.mk (Kd.R_below (rk_ HO_10.out) hb); replace HO_11 := Aside0.mk (Kd.R_below (rk_ HO_11.out) hb); have BK571 := Aside0.mk (hbox); have GW571 := Aside0.mk ((by rw [hg]; exact (below_size (bl_ HB.out)) : w.heap.size ≤ gb571)); have GE571 := Aside0.mk ((by rw [hg]; exact (below_size (bl_ HB.out)) : w.heap.size ≤ gb571)); replace HB := Aside0.mk (below_step (bl_ HB.out) hb); clear hb hbox hg; have hcz21_0 : w20.cell? ⟨gb571, 0, none⟩ = some (.int .i64 0) := (blk_cell BK571.out 0).trans rfl; have hcz21_1 : w20.cell? ⟨gb571, 1, none⟩ = some (.int .i64 0) := (blk_cell BK571.out 1).trans rfl; have hcz21_2 : w20.cell? ⟨gb571, 2, none⟩ = some (.int .i64 0) := (blk_cell BK571.out 2).trans rfl; have hfz21_0 := blk_frozen BK571.out 0; have hfz21_1 := blk_frozen BK571.out 1; have hfz21_2 := blk_frozen BK571.out 2; obtain ⟨Ao22, co22, eo22⟩ := Kd.R_slice HO_10.out; subst eo22; have p572 : 0 ≤ (((rd_T160 l2 x29_1).f1) : Int) := od_; have q572 : ((rd_T160 l2 x29_1).f1) < (t567.length : Int) := od_; obtain ⟨ad572, e572, hx572_0⟩ := Kd.at_bool (Kd.R_reads' HO_10.out).2.2 ((rd_T160 l2 x29_1).f1) p572 q572; (try rw [← Nbq17.out] at hx572_0); cases e572; have hn572_0 : ad572.block ≠ gb571 := Kd.own_blk (Kd.R_ne HO_10.out BK571.out (by decide)); have hn572_1 : ad572.block ≠ gb571 := Kd.own_blk (Kd.R_ne HO_10.out BK571.out (by decide)); have hn572_2 : ad572.block ≠ gb571 := Kd.own_blk (Kd.R_ne HO_10.out BK571.out (by decide)); replace hx572_0 := (cell_far (p := ⟨gb571, 0, none⟩) (by first | (rw [add_block]; exact hn572_0) | (show (Addr.add _ _).block ≠ _; rw [add_block]; exact hn572_0) | exact hn572_0) (.int .i64 ((rd_T160 l2 x29_1).f0))).trans hx572_0; replace hx572_0 := (cell_far (p := ⟨gb571, 1, none⟩) (by first | (rw [add_block]; exact hn572_1) | (show (Addr.add _ _).block ≠ _; rw [add_block]; exact hn572_1) | exact hn572_1) (.int .i64 ((rd_T160 l2 x29_1).f1))).trans hx572_0; replace hx572_0 := (cell_far (p := ⟨gb571, 2, none⟩) (by first | (rw [add_block]; exact hn572_2) | (show (Addr.add _ _).block ≠ _; rw [add_block]; exact hn572_2) | exact hn572_2) (.int .i64 ((rd_T160 l2 x29_1).f2))).trans hx572_0; clear hn572_0; clear hn572_1; clear hn572_2; replace p572 := eq_true p572; replace q572 := eq_true q572) | ((with_reducible refine gate_builtin (b := .append) (xs := #[.tmp 38, .tmp 41]) rfl ?_); at_builtin; refine Kd.R_append (Kd.int .i64) (w0 := w) w.heap.size rfl (.tmp 38) (.tmp 41) 24 2 (.int .i64 0) 8 rfl Try.underlying24 info2 rfl (by decide) (by omega) u11 x11_1 ((rd_T160 l2 x29_1).f0) [.int .i64 ((rd_T160 l2 x29_1).f0)] (fun _ => True) (fun _ => False) rfl (by first | (go_simp; done) | (go_simp; rfl)) ?aP (fun _ hk => hk.elim) ?aF ?aO ?aB ?aS ?aL ?_; (case aP => exact rfl); (case aB => exact (r4_ HB.out GE571.out)); (case aF => exact (fun _ _ => trivial)); (case aO => exact (rk_ (Kd.R_mono (Kd.R_far (p := ⟨gb571, 2, none⟩) (Kd.R_far (p := ⟨gb571, 1, none⟩) (Kd.R_far (p := ⟨gb571, 0, none⟩) (Kd.R_types HO_11.out BK571.out (by decide)) (fun _ hk => hk.2) (.int .i64 ((rd_T160 l2 x29_1).f0))) (fun _ hk => hk.2) (.int .i64 ((rd_T160 l2 x29_1).f1))) (fun _ hk => hk.2) (.int .i64 ((rd_T160 l2 x29_1).f2))) (fun _ hk => trivial)))); (case aS => exact (below_size (r4_ HB.out GE571.out))); (case aL => have := LMc19.out; omega); intro v574 w23 ho hb hg hat; rw [← Ny573.out] at ho; have n0_ := Aside0.mk (Kd.R_over' (rk_ ((Kd.R_mono (Kd.R_far (p := ⟨gb571, 2, none⟩) (Kd.R_far (p := ⟨gb571, 1, none⟩) (Kd.R_far (p := ⟨gb571, 0, none⟩) (Kd.R_types HO_10.out BK571.out (by decide)) (fun _ hk => hk.2) (.int .i64 ((rd_T160 l2 x29_1).f0))) (fun _ hk => hk.2) (.int .i64 ((rd_T160 l2 x29_1).f1))) (fun _ hk => hk.2) (.int .i64 ((rd_T160 l2 x29_1).f2))) (fun _ h_ => h_.1)))) (Kd.R_typed (rk_ ((Kd.R_mono (Kd.R_far (p := ⟨gb571, 2, none⟩) (Kd.R_far (p := ⟨gb571, 1, none⟩) (Kd.R_far (p := ⟨gb571, 0, none⟩) (Kd.R_types HO_11.out BK571.out (by decide)) (fun _ hk => hk.2) (.int .i64 ((rd_T160 l2 x29_1).f0))) (fun _ hk => hk.2) (.int .i64 ((rd_T160 l2 x29_1).f1))) (fun _ hk => hk.2) (.int .i64 ((rd_T160 l2 x29_1).f2))) (fun _ h_ => h_.1))))) (by decide) hg); have n1_ := Aside0.mk (blk_grown (g := gb571) (o := .cells #[.int .i64 ((rd_T160 l2 x29_1).f0), .int .i64 ((rd_T160 l2 x29_1).f1), .int .i64 ((rd_T160 l2 x29_1).f2)] 160 (0, 0)) (by (with_reducible repeat (first | refine blk_drewN ?_ _ | refine blk_drew ?_ | refine blk_alloc ?_ _)); refine blk_put (cs := #[.int .i64 ((rd_T160 l2 x29_1).f0), .int .i64 ((rd_T160 l2 x29_1).f1), .int .i64 0]) ?_ 2 _ rfl; (with_reducible repeat (first | refine blk_drewN ?_ _ | refine blk_drew ?_ | refine blk_alloc ?_ _)); refine blk_put (cs := #[.int .i64 ((rd_T160 l2 x29_1).f0), .int .i64 0, .int .i64 0]) ?_ 1 _ rfl; (with_reducible repeat (first | refine blk_drewN ?_ _ | refine blk_drew ?_ | refine blk_alloc ?_ _)); refine blk_put (cs := #[.int .i64 0, .int .i64 0, .int .i64 0]) ?_ 0 _ rfl; (with_reducible repeat (first | refine blk_drewN ?_ _ | refine blk_drew ?_ | refine blk_alloc ?_ _)); exact BK571.out) hg (Kd.R_ne HO_11.out BK571.out (by decide))); have n2_ := Aside0.mk (hb); have n3_ := Aside0.mk (ho); clear HO_10; clear BK571; clear HB; clear HO_11; have HO_10 := n0_; have BK571 := n1_; have HB := n2_; have HO575 := n3_; clear n0_ n1_ n2_ n3_; clear ho hb hg hat))
       go_roundg k1
       case measure => have := HK1.out; omega
       case rel => exact ⟨(y573), (wrap64 (x29_1 + 1)), (by first | rfl | (simp; done) | (simp [*]; done)), H', ⟨by have := HK1.out; omega⟩, ⟨rk_ HO_10.out⟩, ⟨rk_ HO575.out⟩, ⟨r4_ HB.out GE571.out⟩⟩
      ·replace c18 := Bool.eq_false_iff.mpr c18
       subst c18
       replace H : (impl_CuesBelow.l0 k1 t567 x11_1 l2 (l2.length : Int) (wrap64 (x29_1 + 1))) = some (r1, r2) := by rw [if_neg (show ¬ (false = true) by decide)] at H; exact H
       have H' := Aside0.mk H
       clear H
       have p570 : 0 ≤ (x29_1 : Int) := od_
       have q570 : x29_1 < (l2.length : Int) := od_
       obtain ⟨ad570, e570, hx570_0, hx570_1, hx570_2⟩ := at_T160 HR2.out x29_1 p570 q570
       cases e570
       replace hx570_0 := bc_ HB.out hx570_0
       replace hx570_1 := bc_ HB.out hx570_1
       replace hx570_2 := bc_ HB.out hx570_2
       replace p570 := eq_true p570
       replace q570 := eq_true q570
       go_wp2_with (first | ((with_reducible refine gate_dst (N := 13) rfl ?_); refine box_event ?hg (N := 13) ?hd (cs := #[.int .i64 0, .int .i64 0, .int .i64 0]) (t := 160) ?hr ?_; (case hd => rfl); (case hg => rfl); (case hr => first | (go_simp; done) | (go_simp; rfl)); intro gb571 hg w24 hbox hb; replace HO_10 := Aside0.mk (Kd.R_below (rk_ HO_10.out) hb); replace HO_11 := Aside0.mk (Kd.R_below (rk_ HO_11.out) hb); have BK571 := Aside0.mk (hbox); have GW571 := Aside0.mk ((by rw [hg]; exact (below_size (bl_ HB.out)) : w.heap.size ≤ gb571)); have GE571 := Aside0.mk ((by rw [hg]; exact (below_size (bl_ HB.out)) : w.heap.size ≤ gb571)); replace HB := Aside0.mk (below_step (bl_ HB.out) hb); clear hb hbox hg; have hcz25_0 : w24.cell? ⟨gb571, 0, none⟩ = some (.int .i64 0) := (blk_cell BK571.out 0).trans rfl; have hcz25_1 : w24.cell? ⟨gb571, 1, none⟩ = some (.int .i64 0) := (blk_cell BK571.out 1).trans rfl; have hcz25_2 : w24.cell? ⟨gb571, 2, none⟩ = some (.int .i64 0) := (blk_cell BK571.out 2).trans rfl; have hfz25_0 := blk_frozen BK571.out 0; have hfz25_1 := blk_frozen BK571.out 1; have hfz25_2 := blk_frozen BK571.out 2; obtain ⟨Ao26, co26, eo26⟩ := Kd.R_slice HO_10.out; subst eo26; have p572 : 0 ≤ (((rd_T160 l2 x29_1).f1) : Int) := od_; have q572 : ((rd_T160 l2 x29_1).f1) < (t567.length : Int) := od_; obtain ⟨ad572, e572, hx572_0⟩ := Kd.at_bool (Kd.R_reads' HO_10.out).2.2 ((rd_T160 l2 x29_1).f1) p572 q572; (try rw [← Nbq17.out] at hx572_0); cases e572; have hn572_0 : ad572.block ≠ gb571 := Kd.own_blk (Kd.R_ne HO_10.out BK571.out (by decide)); have hn572_1 : ad572.block ≠ gb571 := Kd.own_blk (Kd.R_ne HO_10.out BK571.out (by decide)); have hn572_2 : ad572.block ≠ gb571 := Kd.own_blk (Kd.R_ne HO_10.out BK571.out (by decide)); replace hx572_0 := (cell_far (p := ⟨gb571, 0, none⟩) (by first | (rw [add_block]; exact hn572_0) | (show (Addr.add _ _).block ≠ _; rw [add_block]; exact hn572_0) | exact hn572_0) (.int .i64 ((rd_T160 l2 x29_1).f0))).trans hx572_0; replace hx572_0 := (cell_far (p := ⟨gb571, 1, none⟩) (by first | (rw [add_block]; exact hn572_1) | (show (Addr.add _ _).block ≠ _; rw [add_block]; exact hn572_1) | exact hn572_1) (.int .i64 ((rd_T160 l2 x29_1).f1))).trans hx572_0; replace hx572_0 := (cell_far (p := ⟨gb571, 2, none⟩) (by first | (rw [add_block]; exact hn572_2) | (show (Addr.add _ _).block ≠ _; rw [add_block]; exact hn572_2) | exact hn572_2) (.int .i64 ((rd_T160 l2 x29_1).f2))).trans hx572_0; clear hn572_0; clear hn572_1; clear hn572_2; replace p572 := eq_true p572; replace q572 := eq_true q572))
       go_roundg k1
       case measure => have := HK1.out; omega
       case rel => exact ⟨(x11_1), (wrap64 (x29_1 + 1)), (by first | rfl | (simp; done) | (simp [*]; done)), H', ⟨by have := HK1.out; omega⟩, ⟨rk_ (Kd.R_mono (Kd.R_far (p := ⟨gb571, 2, none⟩) (Kd.R_far (p := ⟨gb571, 1, none⟩) (Kd.R_far (p := ⟨gb571, 0, none⟩) (Kd.R_types HO_10.out BK571.out (by decide)) (fun _ hk => hk.2) (.int .i64 ((rd_T160 l2 x29_1).f0))) (fun _ hk => hk.2) (.int .i64 ((rd_T160 l2 x29_1).f1))) (fun _ hk => hk.2) (.int .i64 ((rd_T160 l2 x29_1).f2))) (fun _ hk => trivial))⟩, ⟨rk_ (Kd.R_mono (Kd.R_far (p := ⟨gb571, 2, none⟩) (Kd.R_far (p := ⟨gb571, 1, none⟩) (Kd.R_far (p := ⟨gb571, 0, none⟩) (Kd.R_types HO_11.out BK571.out (by decide)) (fun _ hk => hk.2) (.int .i64 ((rd_T160 l2 x29_1).f0))) (fun _ hk => hk.2) (.int .i64 ((rd_T160 l2 x29_1).f1))) (fun _ hk => hk.2) (.int .i64 ((rd_T160 l2 x29_1).f2))) (fun _ hk => trivial))⟩, ⟨r4_ HB.out GE571.out⟩⟩
     ·rw [if_neg c12] at H
      have c12b0 : decide (x29_1 < (l2.length : Int)) = false := decide_eq_false c12
      clear c12
      simp only [Option.some.injEq, Prod.mk.injEq] at H
      obtain ⟨rfl, rfl⟩ := H
      go_wp2
      go_ret2
      exact ⟨_, by first | rfl | (simp [errW_none, errW_some] <;> rfl) | (simp [*, errW_none, errW_some] <;> rfl), rk_ HO_11.out, bl_ HB.out⟩
  ·replace c8 := Bool.eq_false_iff.mpr c8
   subst c8
   replace H : (some (([] : List Int), 2)) = some (r1, r2) := by rw [if_neg (show ¬ (false = true) by decide)] at H; exact H
   simp only [Option.some.injEq, Prod.mk.injEq] at H
   obtain ⟨rfl, rfl⟩ := H
   go_enter Try.func40, Try.ntmps40
   go_wp2_with (first | ((with_reducible refine gate_callee (f := 44) rfl ?_); refine goesL_ (some 17) rfl rfl Try.func44 (by kernel_rfl) rfl #[.slice A0 l0.length c0, .int .i64 a1, .slice A2 l2.length c2] rfl ag_ ?_; (with_reducible refine (impl_AreWires.calls k _ _ l0 a1 _ _ l2 true _ ?side1 ?side2 ?side3 ?side4 A5.out).mono ?_); (case side1 => exact r9_ HR0.out); (case side2 => exact HC0.out); (case side3 => exact r9_ HR2.out); (case side4 => exact HC2.out); rintro e w27 ⟨rfl, hb⟩; refine ⟨_, rfl, ?_⟩; replace HB := Aside0.mk (below_step (bl_ HB.out) hb); (try clear hb); (try clear hb2); (try clear hk); (try clear hi)) | ((with_reducible refine gate_callee (f := 139) rfl ?_); refine goesL_ (some 22) rfl rfl Try.func139 (by kernel_rfl) rfl #[.int .i64 a3, .int .i64 (l0.length : Int)] rfl ag_ ?_; (with_reducible refine (impl_isIndex.calls a3 (l0.length : Int) false _ A7.out).mono ?_); rintro e w' ⟨rfl, ⟨nd, rfl⟩⟩; refine ⟨_, rfl, ?_⟩))
   go_ret2
   exact ⟨_, by first | rfl | (simp [errW_none, errW_some] <;> rfl) | (simp [*, errW_none, errW_some] <;> rfl), by first | exact Kd.R_nil _ _ _ _ _ | exact Kd.N_nil _ _ _ _ _ | exact Kd.V_nil _ _ _ _ _ | exact Kd.Q_nil _ _ _ _ _ | exact Kd.S_nil _ _ _ _ _, bl_ HB.out⟩
 ·replace c6 := Bool.eq_false_iff.mpr c6
  subst c6
  replace H : (some (([] : List Int), 1)) = some (r1, r2) := by rw [if_neg (show ¬ (false = true) by decide)] at H; exact H
  simp only [Option.some.injEq, Prod.mk.injEq] at H
  obtain ⟨rfl, rfl⟩ := H
  go_enter Try.func40, Try.ntmps40
  go_wp2_with (first | ((with_reducible refine gate_callee (f := 44) rfl ?_); refine goesL_ (some 17) rfl rfl Try.func44 (by kernel_rfl) rfl #[.slice A0 l0.length c0, .int .i64 a1, .slice A2 l2.length c2] rfl ag_ ?_; (with_reducible refine (impl_AreWires.calls k _ _ l0 a1 _ _ l2 false _ ?side1 ?side2 ?side3 ?side4 A5.out).mono ?_); (case side1 => exact r9_ HR0.out); (case side2 => exact HC0.out); (case side3 => exact r9_ HR2.out); (case side4 => exact HC2.out); rintro e w28 ⟨rfl, hb⟩; refine ⟨_, rfl, ?_⟩; replace HB := Aside0.mk (below_step (bl_ HB.out) hb); (try clear hb); (try clear hb2); (try clear hk); (try clear hi)))
  go_ret2
  exact ⟨_, by first | rfl | (simp [errW_none, errW_some] <;> rfl) | (simp [*, errW_none, errW_some] <;> rfl), by first | exact Kd.R_nil _ _ _ _ _ | exact Kd.N_nil _ _ _ _ _ | exact Kd.V_nil _ _ _ _ _ | exact Kd.Q_nil _ _ _ _ _ | exact Kd.S_nil _ _ _ _ _, bl_ HB.out⟩
section
attribute [local go_sem high] eqA160
def spec_l01Has.l0 : Nat → List Int → Int → Int → Option (Bool)
  | 0, _, _, _ => none
  | k + 1, x0, x1, x5 => if x5 < (x0.length : Int) then (if 0 ≤ x5 then (if (rd x0 x5) = x1 then (some true) else (spec_l01Has.l0 k x0 x1 (wrap64 (x5 + 1)))) else (none)) else (some false)
def spec_l01Has.f (k : Nat) (l0 : List Int) (a1 : Int) : Option (Bool) := spec_l01Has.l0 k l0 a1 0
set_option maxHeartbeats 8000000 in
set_option maxRecDepth 100000 in
theorem spec_l01Has.calls (k : Nat) (A0 : Option Addr) (c0 : Nat) (l0 : List Int) (a1 : Int) (r : Bool) (w : World) (hr0 : Kd.C (Kd.int .i64) w A0 l0.length l0) (hc0 : l0.length ≤ c0) (h : spec_l01Has.f k l0 a1 = some r) :
    Calls Try.prog 142 #[.slice A0 l0.length c0, .int .i64 a1] w fun e w' => e = .returned (.bool r) ∧ Drawn0 w w' := by
  have HR0 := Aside0.mk hr0
  have HC0 := Aside0.mk hc0
  clear hr0 hc0
  have H : (spec_l01Has.l0 k l0 a1 0) = some r := h
  clear h
  have H' := Aside0.mk H
  clear H
  go_enter Try.func142, Try.ntmps142
  go_wp2
  go_loopg [5] k (fun kq v5 w' => ∃ (x5_1 : Int), v5 = .int .i64 x5_1 ∧ Aside0 (spec_l01Has.l0 kq l0 a1 x5_1 = some r) ∧ Aside0 (kq ≤ k) ∧ Drawn0 w w')
  case atStart => exact ⟨(0), (by first | rfl | (simp; done) | (simp [*]; done)), H', ⟨Nat.le_refl _⟩, by repeat (first | exact Drawn0.refl _ | apply Drawn0.step)⟩
  case round =>
    clear H'
    try clear c1
    try clear p2
    obtain ⟨x5_1, rfl, HA, HK1, ⟨m1, rfl⟩⟩ := hrel
    cases gk with
    | zero => exact absurd HA.out (by simp [spec_l01Has.l0])
    | succ k1 =>
      have H := HA.out
      clear HA
      simp only [spec_l01Has.l0] at H
      by_cases c3 : x5_1 < (l0.length : Int)
      · rw [if_pos c3] at H
        have c3b0 : decide (x5_1 < (l0.length : Int)) = true := decide_eq_true c3
        clear c3
        by_cases c4 : 0 ≤ x5_1
        · rw [if_pos c4] at H
          have c4b0 : decide (0 ≤ x5_1) = true := decide_eq_true c4
          clear c4
          by_cases c5 : (rd l0 x5_1) = a1
          · rw [if_pos c5] at H
            have c5b0 : ((rd l0 x5_1) == a1) = true := beq_iff_eq.mpr c5
            have c5b1 : ((rd l0 x5_1) != a1) = false := bne_eq_false_iff_eq.mpr c5
            clear c5
            obtain rfl := Option.some.inj H
            have p576 : 0 ≤ (x5_1 : Int) := od_
            have q576 : x5_1 < (l0.length : Int) := od_
            obtain ⟨ad576, e576, hx576_0⟩ := Kd.at_int HR0.out x5_1 p576 q576
            cases e576
            replace p576 := eq_true p576
            replace q576 := eq_true q576
            go_wp2
            go_ret
            exact ⟨by first | rfl | (simp; done) | (simp [*]; done), by repeat (first | exact Drawn0.refl _ | apply Drawn0.step)⟩
          · rw [if_neg c5] at H
            have c5b0 : ((rd l0 x5_1) == a1) = false := beq_eq_false_iff_ne.mpr c5
            have c5b1 : ((rd l0 x5_1) != a1) = true := bne_iff_ne.mpr c5
            have H' := Aside0.mk H
            clear H
            have p576 : 0 ≤ (x5_1 : Int) := od_
            have q576 : x5_1 < (l0.length : Int) := od_
            obtain ⟨ad576, e576, hx576_0⟩ := Kd.at_int HR0.out x5_1 p576 q576
            cases e576
            replace p576 := eq_true p576
            replace q576 := eq_true q576
            go_wp2
            go_roundg k1
            case measure => have := HK1.out; omega
            case rel => exact ⟨(wrap64 (x5_1 + 1)), (by first | rfl | (simp; done) | (simp [*]; done)), H', ⟨by have := HK1.out; omega⟩, by repeat (first | exact Drawn0.refl _ | apply Drawn0.step)⟩
        · rw [if_neg c4] at H
          exact absurd H (by simp)
      · rw [if_neg c3] at H
        have c3b0 : decide (x5_1 < (l0.length : Int)) = false := decide_eq_false c3
        clear c3
        obtain rfl := Option.some.inj H
        go_wp2
        go_ret
        exact ⟨by first | rfl | (simp; done) | (simp [*]; done), by repeat (first | exact Drawn0.refl _ | apply Drawn0.step)⟩
end
section
attribute [local go_sem high] eqA160
def spec_l12Way.l0 : Nat → List (S200) → Int → List Int → Option (List Int)
 | 0, _, _, _ => none
 | k + 1, x0, x1, x5 => if x1 ≥ 0 then (if x5.length < 17592186044416 then (if 0 ≤ x1 then (if x1 < (x0.length : Int) then (spec_l12Way.l0 k x0 ((rd_T200 x0 x1).f0) (x5 ++ [x1])) else (none)) else (none)) else (none)) else (some x5)
def spec_l12Way.f (k : Nat) (l0 : List (S200)) (a1 : Int) : Option (List Int) := spec_l12Way.l0 k l0 a1 (([] : List Int))
set_option maxHeartbeats 8000000 in
set_option maxRecDepth 100000 in
theorem spec_l12Way.calls (k : Nat) (A0 : Option Addr) (c0 : Nat) (l0 : List (S200)) (a1 : Int) (r : List Int) (w : World) (hr0 : Kd.C k200 w A0 l0.length l0) (hc0 : l0.length ≤ c0) (h : spec_l12Way.f k l0 a1 = some r) :
  Calls Try.prog 206 #[.slice A0 l0.length c0, .int .i64 a1] w fun e w' => ∃ v0_ : Value, e = .returned (v0_) ∧ Kd.R (Kd.int .i64) 2 w' w.heap.size (fun _ => True) v0_ r ∧ Below w.heap.size w w' := by
 have HR0 := Aside0.mk hr0
 have HC0 := Aside0.mk hc0
 clear hr0 hc0
 have HB := Aside0.mk (Below.refl w.heap.size w)
 have H : (spec_l12Way.l0 k l0 a1 (([] : List Int))) = some r := h
 clear h
 obtain ⟨y577, hy577⟩ : ∃ y_ : List Int, y_ = (([] : List Int)) := ⟨_, rfl⟩
 replace H : (spec_l12Way.l0 k l0 a1 y577) = some r := by first | (rw [hy577]; with_reducible exact H) | (have H2_ := (Option.bind_some _ _).symm.trans H; rw [hy577]; with_reducible exact H2_) | (have H2_ := (Option.bind_some _ _).symm.trans H; with_reducible exact H2_) | with_reducible exact H | (rw [hy577]; exact H) | exact H
 have Ny577 := Aside0.mk hy577
 clear hy577
 have H' := Aside0.mk H
 clear H
 go_enter Try.func206, Try.ntmps206
 go_wp2_with (first | ((with_reducible refine gate_dst (N := 6) rfl ?_); refine Kd.R_lit (Kd.int .i64) _ 2 ?hg (N := 6) ?hd (xs := ([] : List Int)) (inner := []) (ok := fun _ => True) (okp := fun _ => True) ?hr ?hp (fun _ hk => hk) trivial (Below.refl _ _) (Nat.le_refl _) (by simp) ?_; (case hd => rfl); (case hg => rfl); (case hr => first | (go_simp; done) | (go_simp; rfl)); (case hp => exact (Reps.none _ _)); intro v578 w3 ho4 hb hg_ hnew_; clear hg_ hnew_; (first | rw [← Ny577.out] at ho4 | (simp only [Int.reduceToNat] at ho4; rw [← Ny577.out] at ho4)); have HO579 := Aside0.mk (Kd.R_lower ho4 (below_size (bl_ HB.out))); replace HB := Aside0.mk (below_step (bl_ HB.out) hb); clear hb ho4))
 go_loopg [1, 5] k (fun kq v1 v5 w' => ∃ (x1_1 : Int) (x5_1 : List Int), v1 = .int .i64 x1_1 ∧ Aside0 (spec_l12Way.l0 kq l0 x1_1 x5_1 = some r) ∧ Aside0 (kq ≤ k) ∧ Aside0 (Kd.R (Kd.int .i64) 2 w' w.heap.size (fun _ => True) v5 x5_1) ∧ Aside0 (Below w.heap.size w w'))
 case atStart => exact ⟨(a1), (y577), (by first | rfl | (simp; done) | (simp [*]; done)), H', ⟨Nat.le_refl _⟩, ⟨rk_ HO579.out⟩, ⟨bl_ HB.out⟩⟩
 case round =>
  clear H'
  try clear c2
  try clear p2
  obtain ⟨x1_1, x5_1, rfl, HA, HK1, HO_5, HB⟩ := hrel
  cases gk with
  | zero => exact absurd HA.out (by simp [spec_l12Way.l0])
  | succ k1 =>
   have H := HA.out
   clear HA
   simp only [spec_l12Way.l0] at H
   by_cases c5 : x1_1 ≥ 0
   ·rw [if_pos c5] at H
    have c5b0 : decide (0 ≤ x1_1) = true := decide_eq_true c5
    clear c5
    by_cases c6 : x5_1.length < 17592186044416
    case neg =>
     rw [if_neg c6] at H
     exact absurd H (by simp)
    rw [if_pos c6] at H
    have LMc6 := Aside0.mk c6
    clear c6
    obtain ⟨y580, hy580⟩ : ∃ y_ : List Int, y_ = (x5_1 ++ [x1_1]) := ⟨_, rfl⟩
    replace H : (if 0 ≤ x1_1 then (if x1_1 < (l0.length : Int) then (spec_l12Way.l0 k1 l0 ((rd_T200 l0 x1_1).f0) y580) else (none)) else (none)) = some r := by first | (rw [hy580]; with_reducible exact H) | (have H2_ := (Option.bind_some _ _).symm.trans H; rw [hy580]; with_reducible exact H2_) | (have H2_ := (Option.bind_some _ _).symm.trans H; with_reducible exact H2_) | with_reducible exact H | (rw [hy580]; exact H) | exact H
    have Ny580 := Aside0.mk hy580
    clear hy580
    by_cases c7 : 0 ≤ x1_1
    case neg =>
     rw [if_neg c7] at H
     exact absurd H (by simp)
    rw [if_pos c7] at H
    have c7b0 : decide (0 ≤ x1_1) = true := decide_eq_true c7
    clear c7
    by_cases c8 : x1_1 < (l0.length : Int)
    case neg =>
     rw [if_neg c8] at H
     exact absurd H (by simp)
    rw [if_pos c8] at H
    have c8b0 : decide (x1_1 < (l0.length : Int)) = true := decide_eq_true c8
    clear c8
    have H' := Aside0.mk H
    clear H
    go_wp2_with (first | ((with_reducible refine gate_builtin (b := .append) (xs := #[.tmp 9, .tmp 11]) rfl ?_); at_builtin; refine Kd.R_append (Kd.int .i64) (w0 := w) w.heap.size rfl (.tmp 9) (.tmp 11) 24 2 (.int .i64 0) 8 rfl Try.underlying24 info2 rfl (by decide) (by omega) u5 x5_1 x1_1 [.int .i64 x1_1] (fun _ => True) (fun _ => False) rfl rfl ?aP (fun _ hk => hk.elim) ?aF ?aO ?aB ?aS ?aL ?_; (case aP => exact rfl); (case aB => exact (bl_ HB.out)); (case aF => exact (fun _ _ => trivial)); (case aO => exact (rk_ HO_5.out)); (case aS => exact (below_size (bl_ HB.out))); (case aL => have := LMc6.out; omega); intro v581 w9 ho hb hg hat; rw [← Ny580.out] at ho; have n0_ := Aside0.mk (hb); have n1_ := Aside0.mk (ho); clear HB; clear HO_5; have HB := n0_; have HO582 := n1_; clear n0_ n1_; clear ho hb hg hat; have p583 : 0 ≤ (x1_1 : Int) := od_; have q583 : x1_1 < (l0.length : Int) := od_; obtain ⟨ad583, e583, hx583_0, hx583_1⟩ := at_T200 HR0.out x1_1 p583 q583; cases e583; replace hx583_0 := bc_ HB.out hx583_0; replace hx583_1 := bc_ HB.out hx583_1; replace p583 := eq_true p583; replace q583 := eq_true q583))
    go_roundg k1
    case measure => have := HK1.out; omega
    case rel => exact ⟨((rd_T200 l0 x1_1).f0), (y580), (by first | rfl | (simp; done) | (simp [*]; done)), H', ⟨by have := HK1.out; omega⟩, ⟨rk_ HO582.out⟩, ⟨bl_ HB.out⟩⟩
   ·rw [if_neg c5] at H
    have c5b0 : decide (0 ≤ x1_1) = false := decide_eq_false c5
    clear c5
    obtain rfl := Option.some.inj H
    go_wp2
    go_ret
    exact ⟨_, by first | rfl | (simp [errW_none, errW_some] <;> rfl) | (simp [*, errW_none, errW_some] <;> rfl), rk_ HO_5.out, bl_ HB.out⟩
end
section
attribute [local go_sem high] eqA160
def spec_l12Below.l0 : Nat → List (S200) → Int → List Int → Int → Option (List Int)
 | 0, _, _, _, _ => none
 | k + 1, x0, x1, x5, x6 => if x6 < (x0.length : Int) then ((spec_l12Way.f k x0 x6).bind fun t587 => ((spec_l01Has.f k t587 x1).bind fun t590 => (if t590 = true then (if x5.length < 17592186044416 then (spec_l12Below.l0 k x0 x1 (x5 ++ [x6]) (wrap64 (x6 + 1))) else (none)) else (spec_l12Below.l0 k x0 x1 x5 (wrap64 (x6 + 1)))))) else (some x5)
def spec_l12Below.f (k : Nat) (l0 : List (S200)) (a1 : Int) : Option (List Int) := spec_l12Below.l0 k l0 a1 (([] : List Int)) 0
set_option maxHeartbeats 8000000 in
set_option maxRecDepth 100000 in
theorem spec_l12Below.calls (k : Nat) (A0 : Option Addr) (c0 : Nat) (l0 : List (S200)) (a1 : Int) (r : List Int) (w : World) (hr0 : Kd.C k200 w A0 l0.length l0) (hc0 : l0.length ≤ c0) (h : spec_l12Below.f k l0 a1 = some r) :
  Calls Try.prog 141 #[.slice A0 l0.length c0, .int .i64 a1] w fun e w' => ∃ v0_ : Value, e = .returned (v0_) ∧ Kd.R (Kd.int .i64) 2 w' w.heap.size (fun _ => True) v0_ r ∧ Below w.heap.size w w' := by
 have HR0 := Aside0.mk hr0
 have HC0 := Aside0.mk hc0
 clear hr0 hc0
 have HB := Aside0.mk (Below.refl w.heap.size w)
 have H : (spec_l12Below.l0 k l0 a1 (([] : List Int)) 0) = some r := h
 clear h
 obtain ⟨y584, hy584⟩ : ∃ y_ : List Int, y_ = (([] : List Int)) := ⟨_, rfl⟩
 replace H : (spec_l12Below.l0 k l0 a1 y584 0) = some r := by first | (rw [hy584]; with_reducible exact H) | (have H2_ := (Option.bind_some _ _).symm.trans H; rw [hy584]; with_reducible exact H2_) | (have H2_ := (Option.bind_some _ _).symm.trans H; with_reducible exact H2_) | with_reducible exact H | (rw [hy584]; exact H) | exact H
 have Ny584 := Aside0.mk hy584
 clear hy584
 have H' := Aside0.mk H
 clear H
 go_enter Try.func141, Try.ntmps141
 go_wp2_with (first | ((with_reducible refine gate_dst (N := 7) rfl ?_); refine Kd.R_lit (Kd.int .i64) _ 2 ?hg (N := 7) ?hd (xs := ([] : List Int)) (inner := []) (ok := fun _ => True) (okp := fun _ => True) ?hr ?hp (fun _ hk => hk) trivial (Below.refl _ _) (Nat.le_refl _) (by simp) ?_; (case hd => rfl); (case hg => rfl); (case hr => first | (go_simp; done) | (go_simp; rfl)); (case hp => exact (Reps.none _ _)); intro v585 w3 ho4 hb hg_ hnew_; clear hg_ hnew_; (first | rw [← Ny584.out] at ho4 | (simp only [Int.reduceToNat] at ho4; rw [← Ny584.out] at ho4)); have HO586 := Aside0.mk (Kd.R_lower ho4 (below_size (bl_ HB.out))); replace HB := Aside0.mk (below_step (bl_ HB.out) hb); clear hb ho4))
 go_loopg [5, 6] k (fun kq v5 v6 w' => ∃ (x5_1 : List Int) (x6_1 : Int), v6 = .int .i64 x6_1 ∧ Aside0 (spec_l12Below.l0 kq l0 a1 x5_1 x6_1 = some r) ∧ Aside0 (kq ≤ k) ∧ Aside0 (Kd.R (Kd.int .i64) 2 w' w.heap.size (fun _ => True) v5 x5_1) ∧ Aside0 (Below w.heap.size w w'))
 case atStart => exact ⟨(y584), (0), (by first | rfl | (simp; done) | (simp [*]; done)), H', ⟨Nat.le_refl _⟩, ⟨rk_ HO586.out⟩, ⟨bl_ HB.out⟩⟩
 case round =>
  clear H'
  try clear c1
  try clear p2
  obtain ⟨x5_1, x6_1, rfl, HA, HK1, HO_5, HB⟩ := hrel
  cases gk with
  | zero => exact absurd HA.out (by simp [spec_l12Below.l0])
  | succ k1 =>
   have H := HA.out
   clear HA
   simp only [spec_l12Below.l0] at H
   by_cases c5 : x6_1 < (l0.length : Int)
   ·rw [if_pos c5] at H
    have c5b0 : decide (x6_1 < (l0.length : Int)) = true := decide_eq_true c5
    clear c5
    replace H := Option.bind_eq_some_iff.mp H
    obtain ⟨t587, A60, H⟩ := H
    replace H : ((spec_l01Has.f k1 t587 a1).bind fun t590 => (if t590 = true then (if x5_1.length < 17592186044416 then (spec_l12Below.l0 k1 l0 a1 (x5_1 ++ [x6_1]) (wrap64 (x6_1 + 1))) else (none)) else (spec_l12Below.l0 k1 l0 a1 x5_1 (wrap64 (x6_1 + 1))))) = some r := H
    have A6 := Aside0.mk A60
    clear A60
    replace H := Option.bind_eq_some_iff.mp H
    obtain ⟨t590, A70, H⟩ := H
    replace H : (if t590 = true then (if x5_1.length < 17592186044416 then (spec_l12Below.l0 k1 l0 a1 (x5_1 ++ [x6_1]) (wrap64 (x6_1 + 1))) else (none)) else (spec_l12Below.l0 k1 l0 a1 x5_1 (wrap64 (x6_1 + 1)))) = some r := H
    have A7 := Aside0.mk A70
    clear A70
    by_cases c8 : t590 = true
    ·subst c8
     replace H : (if x5_1.length < 17592186044416 then (spec_l12Below.l0 k1 l0 a1 (x5_1 ++ [x6_1]) (wrap64 (x6_1 + 1))) else (none)) = some r := by rw [if_pos rfl] at H; exact H
     by_cases c9 : x5_1.length < 17592186044416
     case neg =>
      rw [if_neg c9] at H
      exact absurd H (by simp)
     rw [if_pos c9] at H
     have LMc9 := Aside0.mk c9
     clear c9
     obtain ⟨y591, hy591⟩ : ∃ y_ : List Int, y_ = (x5_1 ++ [x6_1]) := ⟨_, rfl⟩
     replace H : (spec_l12Below.l0 k1 l0 a1 y591 (wrap64 (x6_1 + 1))) = some r := by first | (rw [hy591]; with_reducible exact H) | (have H2_ := (Option.bind_some _ _).symm.trans H; rw [hy591]; with_reducible exact H2_) | (have H2_ := (Option.bind_some _ _).symm.trans H; with_reducible exact H2_) | with_reducible exact H | (rw [hy591]; exact H) | exact H
     have Ny591 := Aside0.mk hy591
     clear hy591
     have H' := Aside0.mk H
     clear H
     go_wp2_with (first | ((with_reducible refine gate_callee (f := 206) rfl ?_); refine goesL_ (some 16) rfl rfl Try.func206 (by kernel_rfl) rfl #[.slice A0 l0.length c0, .int .i64 x6_1] rfl ag_ ?_; (with_reducible refine (spec_l12Way.calls k1 _ _ l0 x6_1 t587 _ ?side1 ?side2 A6.out).mono ?_); (case side1 => exact r5_ HR0.out HB.out); (case side2 => exact HC0.out); rintro e w10 ⟨v588, rfl, ho0, hb⟩; refine ⟨_, rfl, ?_⟩; have HO589 := Aside0.mk (Kd.R_lower (Kd.R_new' ho0 (Kd.R_lt (rk_ HO_5.out))) (below_size (bl_ HB.out))); replace HO_5 := Aside0.mk (Kd.R_elder' (rk_ HO_5.out) (Kd.R_base ho0) hb); replace HB := Aside0.mk (below_step (bl_ HB.out) hb); (try clear hb); (try clear hb2); (try clear hk); (try clear hi); (try clear ho0); obtain ⟨Ao11, co11, eo11⟩ := Kd.R_slice HO589.out; subst eo11) | ((with_reducible refine gate_callee (f := 142) rfl ?_); refine goesL_ (some 18) rfl rfl Try.func142 (by kernel_rfl) rfl #[.slice Ao11 t587.length co11, .int .i64 a1] rfl ag_ ?_; (with_reducible refine (spec_l01Has.calls k1 _ _ t587 a1 true _ ?side1 ?side2 A7.out).mono ?_); (case side1 => exact r7_ HO589.out); (case side2 => exact (Kd.R_reads' HO589.out).2.1); rintro e w' ⟨rfl, ⟨nd, rfl⟩⟩; refine ⟨_, rfl, ?_⟩) | ((with_reducible refine gate_builtin (b := .append) (xs := #[.tmp 19, .tmp 21]) rfl ?_); at_builtin; refine Kd.R_append (Kd.int .i64) (w0 := w) w.heap.size rfl (.tmp 19) (.tmp 21) 24 2 (.int .i64 0) 8 rfl Try.underlying24 info2 rfl (by decide) (by omega) u5 x5_1 x6_1 [.int .i64 x6_1] (fun k_ => some k_ ≠ (.slice Ao11 t587.length co11 : Value).ownBlock) (fun _ => False) rfl rfl ?aP (fun _ hk => hk.elim) ?aF ?aO ?aB ?aS ?aL ?_; (case aP => exact rfl); (case aB => exact (bl_ HB.out)); (case aF => exact (fun k_ hk => Kd.fresh' (Kd.R_lt (rk_ HO589.out)) k_ hk)); (case aO => exact (rk_ (Kd.R_mono HO_5.out (fun _ hk => hk.2)))); (case aS => exact (below_size (bl_ HB.out))); (case aL => have := LMc9.out; omega); intro v592 w12 ho hb hg hat; rw [← Ny591.out] at ho; have n0_ := Aside0.mk (Kd.R_after (ok := (fun _ => True)) (rk_ HO589.out) hg hat); have n1_ := Aside0.mk (hb); have n2_ := Aside0.mk (ho); clear HO589; clear HB; clear HO_5; have HO589 := n0_; have HB := n1_; have HO593 := n2_; clear n0_ n1_ n2_; clear ho hb hg hat))
     go_roundg k1
     case measure => have := HK1.out; omega
     case rel => exact ⟨(y591), (wrap64 (x6_1 + 1)), (by first | rfl | (simp; done) | (simp [*]; done)), H', ⟨by have := HK1.out; omega⟩, ⟨rk_ (Kd.R_mono HO593.out (fun _ hk => trivial))⟩, ⟨bl_ HB.out⟩⟩
    ·replace c8 := Bool.eq_false_iff.mpr c8
     subst c8
     replace H : (spec_l12Below.l0 k1 l0 a1 x5_1 (wrap64 (x6_1 + 1))) = some r := by rw [if_neg (show ¬ (false = true) by decide)] at H; exact H
     have H' := Aside0.mk H
     clear H
     go_wp2_with (first | ((with_reducible refine gate_callee (f := 206) rfl ?_); refine goesL_ (some 16) rfl rfl Try.func206 (by kernel_rfl) rfl #[.slice A0 l0.length c0, .int .i64 x6_1] rfl ag_ ?_; (with_reducible refine (spec_l12Way.calls k1 _ _ l0 x6_1 t587 _ ?side1 ?side2 A6.out).mono ?_); (case side1 => exact r5_ HR0.out HB.out); (case side2 => exact HC0.out); rintro e w13 ⟨v588, rfl, ho0, hb⟩; refine ⟨_, rfl, ?_⟩; have HO589 := Aside0.mk (Kd.R_lower (Kd.R_new' ho0 (Kd.R_lt (rk_ HO_5.out))) (below_size (bl_ HB.out))); replace HO_5 := Aside0.mk (Kd.R_elder' (rk_ HO_5.out) (Kd.R_base ho0) hb); replace HB := Aside0.mk (below_step (bl_ HB.out) hb); (try clear hb); (try clear hb2); (try clear hk); (try clear hi); (try clear ho0); obtain ⟨Ao14, co14, eo14⟩ := Kd.R_slice HO589.out; subst eo14) | ((with_reducible refine gate_callee (f := 142) rfl ?_); refine goesL_ (some 18) rfl rfl Try.func142 (by kernel_rfl) rfl #[.slice Ao14 t587.length co14, .int .i64 a1] rfl ag_ ?_; (with_reducible refine (spec_l01Has.calls k1 _ _ t587 a1 false _ ?side1 ?side2 A7.out).mono ?_); (case side1 => exact r7_ HO589.out); (case side2 => exact (Kd.R_reads' HO589.out).2.1); rintro e w' ⟨rfl, ⟨nd, rfl⟩⟩; refine ⟨_, rfl, ?_⟩))
     go_roundg k1
     case measure => have := HK1.out; omega
     case rel => exact ⟨(x5_1), (wrap64 (x6_1 + 1)), (by first | rfl | (simp; done) | (simp [*]; done)), H', ⟨by have := HK1.out; omega⟩, ⟨rk_ (Kd.R_mono HO_5.out (fun _ hk => trivial))⟩, ⟨bl_ HB.out⟩⟩
   ·rw [if_neg c5] at H
    have c5b0 : decide (x6_1 < (l0.length : Int)) = false := decide_eq_false c5
    clear c5
    obtain rfl := Option.some.inj H
    go_wp2
    go_ret
    exact ⟨_, by first | rfl | (simp [errW_none, errW_some] <;> rfl) | (simp [*, errW_none, errW_some] <;> rfl), rk_ HO_5.out, bl_ HB.out⟩
end
section
attribute [local go_sem high] eqA160
def spec_CuesBelow.l0 : Nat → List (S160) → List Int → List Int → Int → Option (List Int × Int)
 | 0, _, _, _, _ => none
 | k + 1, x2, x11, x12, x13 => if x13 < (x2.length : Int) then (if 0 ≤ x13 then ((spec_l01Has.f k x11 ((rd_T160 x2 x13).f1)).bind fun t602 => (if t602 = true then (if x12.length < 17592186044416 then (spec_CuesBelow.l0 k x2 x11 (x12 ++ [(rd_T160 x2 x13).f0]) (wrap64 (x13 + 1))) else (none)) else (spec_CuesBelow.l0 k x2 x11 x12 (wrap64 (x13 + 1))))) else (none)) else (some (x12, 0))
def spec_CuesBelow.f (k : Nat) (l0 : List (S200)) (a1 : Int) (l2 : List (S160)) (a3 : Int) : Option (List Int × Int) := (spec_l13Code.f k l0 a1 l2 a3 0).bind fun t594 => (if t594 = 0 then ((spec_l12Below.f k l0 a3).bind fun t595 => (spec_CuesBelow.l0 k l2 t595 (([] : List Int)) 0)) else (some (([] : List Int), t594)))
set_option maxHeartbeats 8000000 in
set_option maxRecDepth 100000 in
theorem spec_CuesBelow.calls (k : Nat) (A0 : Option Addr) (c0 : Nat) (l0 : List (S200)) (a1 : Int) (A2 : Option Addr) (c2 : Nat) (l2 : List (S160)) (a3 : Int) (r1 : List Int) (r2 : Int) (w : World) (hr0 : Kd.C k200 w A0 l0.length l0) (hc0 : l0.length ≤ c0) (hr2 : Kd.C k160 w A2 l2.length l2) (hc2 : l2.length ≤ c2) (h : spec_CuesBelow.f k l0 a1 l2 a3 = some (r1, r2)) :
  Calls Try.prog 41 #[.slice A0 l0.length c0, .int .i64 a1, .slice A2 l2.length c2, .int .i64 a3] w fun e w' => ∃ v0_ : Value, e = .returned (.tuple #[v0_, .int .i64 r2]) ∧ Kd.R (Kd.int .i64) 2 w' w.heap.size (fun _ => True) v0_ r1 ∧ Below w.heap.size w w' := by
 have HR0 := Aside0.mk hr0
 have HC0 := Aside0.mk hc0
 clear hr0 hc0
 have HR2 := Aside0.mk hr2
 have HC2 := Aside0.mk hc2
 clear hr2 hc2
 have HB := Aside0.mk (Below.refl w.heap.size w)
 have H : ((spec_l13Code.f k l0 a1 l2 a3 0).bind fun t594 => (if t594 = 0 then ((spec_l12Below.f k l0 a3).bind fun t595 => (spec_CuesBelow.l0 k l2 t595 (([] : List Int)) 0)) else (some (([] : List Int), t594)))) = some (r1, r2) := h
 clear h
 replace H := Option.bind_eq_some_iff.mp H
 obtain ⟨t594, A50, H⟩ := H
 replace H : (if t594 = 0 then ((spec_l12Below.f k l0 a3).bind fun t595 => (spec_CuesBelow.l0 k l2 t595 (([] : List Int)) 0)) else (some (([] : List Int), t594))) = some (r1, r2) := H
 have A5 := Aside0.mk A50
 clear A50
 by_cases c6 : t594 = 0
 ·rw [if_pos c6] at H
  have c6b0 : (t594 == 0) = true := beq_iff_eq.mpr c6
  have c6b1 : (t594 != 0) = false := bne_eq_false_iff_eq.mpr c6
  clear c6
  replace H := Option.bind_eq_some_iff.mp H
  obtain ⟨t595, A70, H⟩ := H
  replace H : (spec_CuesBelow.l0 k l2 t595 (([] : List Int)) 0) = some (r1, r2) := H
  have A7 := Aside0.mk A70
  clear A70
  obtain ⟨y598, hy598⟩ : ∃ y_ : List Int, y_ = (([] : List Int)) := ⟨_, rfl⟩
  replace H : (spec_CuesBelow.l0 k l2 t595 y598 0) = some (r1, r2) := by first | (rw [hy598]; with_reducible exact H) | (have H2_ := (Option.bind_some _ _).symm.trans H; rw [hy598]; with_reducible exact H2_) | (have H2_ := (Option.bind_some _ _).symm.trans H; with_reducible exact H2_) | with_reducible exact H | (rw [hy598]; exact H) | exact H
  have Ny598 := Aside0.mk hy598
  clear hy598
  have H' := Aside0.mk H
  clear H
  go_enter Try.func41, Try.ntmps41
  go_wp2_with (first | ((with_reducible refine gate_callee (f := 126) rfl ?_); refine goesL_ (some 18) rfl rfl Try.func126 (by kernel_rfl) rfl #[.slice A0 l0.length c0, .int .i64 a1, .slice A2 l2.length c2, .int .i64 a3, .int .i64 0] rfl ag_ ?_; (with_reducible refine (spec_l13Code.calls k _ _ l0 a1 _ _ l2 a3 0 t594 _ ?side1 ?side2 ?side3 ?side4 A5.out).mono ?_); (case side1 => exact r9_ HR0.out); (case side2 => exact HC0.out); (case side3 => exact r9_ HR2.out); (case side4 => exact HC2.out); rintro e w8 ⟨rfl, hb⟩; refine ⟨_, rfl, ?_⟩; replace HB := Aside0.mk (below_step (bl_ HB.out) hb); (try clear hb); (try clear hb2); (try clear hk); (try clear hi)) | ((with_reducible refine gate_callee (f := 141) rfl ?_); refine goesL_ (some 24) rfl rfl Try.func141 (by kernel_rfl) rfl #[.slice A0 l0.length c0, .int .i64 a3] rfl ag_ ?_; (with_reducible refine (spec_l12Below.calls k _ _ l0 a3 t595 _ ?side1 ?side2 A7.out).mono ?_); (case side1 => exact r5_ HR0.out HB.out); (case side2 => exact HC0.out); rintro e w9 ⟨v596, rfl, ho0, hb⟩; refine ⟨_, rfl, ?_⟩; have HO597 := Aside0.mk (Kd.R_lower ho0 (below_size (bl_ HB.out))); replace HB := Aside0.mk (below_step (bl_ HB.out) hb); (try clear hb); (try clear hb2); (try clear hk); (try clear hi); (try clear ho0)) | ((with_reducible refine gate_dst (N := 25) rfl ?_); refine Kd.R_lit (Kd.int .i64) _ 2 ?hg (N := 25) ?hd (xs := ([] : List Int)) (inner := []) (ok := fun _ => True) (okp := fun _ => True) ?hr ?hp (fun _ hk => hk) trivial (Below.refl _ _) (Nat.le_refl _) (by simp) ?_; (case hd => rfl); (case hg => rfl); (case hr => first | (go_simp; done) | (go_simp; rfl)); (case hp => exact (Reps.none _ _)); intro v599 w10 ho11 hb hg_ hnew_; clear hg_ hnew_; (first | rw [← Ny598.out] at ho11 | (simp only [Int.reduceToNat] at ho11; rw [← Ny598.out] at ho11)); have HO600 := Aside0.mk (Kd.R_lower (Kd.R_new' ho11 (Kd.R_lt (rk_ HO597.out))) (below_size (bl_ HB.out))); replace HO597 := Aside0.mk (Kd.R_elder' (rk_ HO597.out) (Kd.R_base ho11) hb); replace HB := Aside0.mk (below_step (bl_ HB.out) hb); clear hb ho11))
  go_loopg [12, 13] k (fun kq v12 v13 w' => ∃ (x12_1 : List Int) (x13_1 : Int), v13 = .int .i64 x13_1 ∧ Aside0 (spec_CuesBelow.l0 kq l2 t595 x12_1 x13_1 = some (r1, r2)) ∧ Aside0 (kq ≤ k) ∧ Aside0 (Kd.R (Kd.int .i64) 2 w' w.heap.size (fun k_ => some k_ ≠ (v12 : Value).ownBlock) v596 t595) ∧ Aside0 (Kd.R (Kd.int .i64) 2 w' w.heap.size (fun k_ => some k_ ≠ (v596 : Value).ownBlock) v12 x12_1) ∧ Aside0 (Below w.heap.size w w'))
  case atStart => exact ⟨(y598), (0), (by first | rfl | (simp; done) | (simp [*]; done)), H', ⟨Nat.le_refl _⟩, ⟨rk_ (Kd.R_mono HO597.out (fun _ hk => hk.2))⟩, ⟨rk_ (Kd.R_mono HO600.out (fun _ hk => hk.2))⟩, ⟨bl_ HB.out⟩⟩
  case round =>
   clear H'
   try clear c1
   try clear c2
   try clear p2
   try clear c4
   try clear c6
   try clear c6b0
   try clear c6b1
   obtain ⟨x12_1, x13_1, rfl, HA, HK1, HO_11, HO_12, HB⟩ := hrel
   cases gk with
   | zero => exact absurd HA.out (by simp [spec_CuesBelow.l0])
   | succ k1 =>
    have H := HA.out
    clear HA
    simp only [spec_CuesBelow.l0] at H
    by_cases c12 : x13_1 < (l2.length : Int)
    ·rw [if_pos c12] at H
     have c12b0 : decide (x13_1 < (l2.length : Int)) = true := decide_eq_true c12
     clear c12
     by_cases c13 : 0 ≤ x13_1
     case neg =>
      rw [if_neg c13] at H
      exact absurd H (by simp)
     rw [if_pos c13] at H
     have c13b0 : decide (0 ≤ x13_1) = true := decide_eq_true c13
     clear c13
     replace H := Option.bind_eq_some_iff.mp H
     obtain ⟨t602, A140, H⟩ := H
     replace H : (if t602 = true then (if x12_1.length < 17592186044416 then (spec_CuesBelow.l0 k1 l2 t595 (x12_1 ++ [(rd_T160 l2 x13_1).f0]) (wrap64 (x13_1 + 1))) else (none)) else (spec_CuesBelow.l0 k1 l2 t595 x12_1 (wrap64 (x13_1 + 1)))) = some (r1, r2) := H
     have A14 := Aside0.mk A140
     clear A140
     by_cases c15 : t602 = true
     ·subst c15
      replace H : (if x12_1.length < 17592186044416 then (spec_CuesBelow.l0 k1 l2 t595 (x12_1 ++ [(rd_T160 l2 x13_1).f0]) (wrap64 (x13_1 + 1))) else (none)) = some (r1, r2) := by rw [if_pos rfl] at H; exact H
      by_cases c16 : x12_1.length < 17592186044416
      case neg =>
       rw [if_neg c16] at H
       exact absurd H (by simp)
      rw [if_pos c16] at H
      have LMc16 := Aside0.mk c16
      clear c16
      obtain ⟨y604, hy604⟩ : ∃ y_ : List Int, y_ = (x12_1 ++ [(rd_T160 l2 x13_1).f0]) := ⟨_, rfl⟩
      replace H : (spec_CuesBelow.l0 k1 l2 t595 y604 (wrap64 (x13_1 + 1))) = some (r1, r2) := by first | (rw [hy604]; with_reducible exact H) | (have H2_ := (Option.bind_some _ _).symm.trans H; rw [hy604]; with_reducible exact H2_) | (have H2_ := (Option.bind_some _ _).symm.trans H; with_reducible exact H2_) | with_reducible exact H | (rw [hy604]; exact H) | exact H
      have Ny604 := Aside0.mk hy604
      clear hy604
      have H' := Aside0.mk H
      clear H
      have p601 : 0 ≤ (x13_1 : Int) := od_
      have q601 : x13_1 < (l2.length : Int) := od_
      obtain ⟨ad601, e601, hx601_0, hx601_1, hx601_2⟩ := at_T160 HR2.out x13_1 p601 q601
      cases e601
      replace hx601_0 := bc_ HB.out hx601_0
      replace hx601_1 := bc_ HB.out hx601_1
      replace hx601_2 := bc_ HB.out hx601_2
      replace p601 := eq_true p601
      replace q601 := eq_true q601
      obtain ⟨Ao17, co17, eo17⟩ := Kd.R_slice HO_11.out
      subst eo17
      go_wp2_with (first | ((with_reducible refine gate_callee (f := 142) rfl ?_); refine goesL_ (some 38) rfl rfl Try.func142 (by kernel_rfl) rfl #[.slice Ao17 t595.length co17, .int .i64 ((rd_T160 l2 x13_1).f1)] rfl ag_ ?_; (with_reducible refine (spec_l01Has.calls k1 _ _ t595 ((rd_T160 l2 x13_1).f1) true _ ?side1 ?side2 A14.out).mono ?_); (case side1 => exact r7_ HO_11.out); (case side2 => exact (Kd.R_reads' HO_11.out).2.1); rintro e w' ⟨rfl, ⟨nd, rfl⟩⟩; refine ⟨_, rfl, ?_⟩; have p603 : 0 ≤ (x13_1 : Int) := od_; have q603 : x13_1 < (l2.length : Int) := od_; obtain ⟨ad603, e603, hx603_0, hx603_1, hx603_2⟩ := at_T160 HR2.out x13_1 p603 q603; obtain rfl : ad601 = ad603 := (by injection e603); replace hx603_0 := bc_ HB.out hx603_0; replace hx603_1 := bc_ HB.out hx603_1; replace hx603_2 := bc_ HB.out hx603_2; replace p603 := eq_true p603; replace q603 := eq_true q603) | ((with_reducible refine gate_builtin (b := .append) (xs := #[.tmp 39, .tmp 45]) rfl ?_); at_builtin; refine Kd.R_append (Kd.int .i64) (w0 := w) w.heap.size rfl (.tmp 39) (.tmp 45) 24 2 (.int .i64 0) 8 rfl Try.underlying24 info2 rfl (by decide) (by omega) u12 x12_1 ((rd_T160 l2 x13_1).f0) [.int .i64 ((rd_T160 l2 x13_1).f0)] (fun k_ => some k_ ≠ (.slice Ao17 t595.length co17 : Value).ownBlock) (fun _ => False) rfl rfl ?aP (fun _ hk => hk.elim) ?aF ?aO ?aB ?aS ?aL ?_; (case aP => exact rfl); (case aB => exact (bl_ HB.out)); (case aF => exact (fun k_ hk => Kd.fresh' (Kd.R_lt (rk_ HO_11.out)) k_ hk)); (case aO => exact (rk_ HO_12.out)); (case aS => exact (below_size (bl_ HB.out))); (case aL => have := LMc16.out; omega); intro v605 w18 ho hb hg hat; rw [← Ny604.out] at ho; have n0_ := Aside0.mk (Kd.R_after (ok := (fun _ => True)) (rk_ (Kd.R_mono HO_11.out (fun _ hk => ⟨trivial, hk⟩))) hg hat); have n1_ := Aside0.mk (hb); have n2_ := Aside0.mk (ho); clear HO_11; clear HB; clear HO_12; have HO_11 := n0_; have HB := n1_; have HO606 := n2_; clear n0_ n1_ n2_; clear ho hb hg hat))
      go_roundg k1
      case measure => have := HK1.out; omega
      case rel => exact ⟨(y604), (wrap64 (x13_1 + 1)), (by first | rfl | (simp; done) | (simp [*]; done)), H', ⟨by have := HK1.out; omega⟩, ⟨rk_ (Kd.R_mono HO_11.out (fun _ hk => hk.2))⟩, ⟨rk_ HO606.out⟩, ⟨bl_ HB.out⟩⟩
     ·replace c15 := Bool.eq_false_iff.mpr c15
      subst c15
      replace H : (spec_CuesBelow.l0 k1 l2 t595 x12_1 (wrap64 (x13_1 + 1))) = some (r1, r2) := by rw [if_neg (show ¬ (false = true) by decide)] at H; exact H
      have H' := Aside0.mk H
      clear H
      have p601 : 0 ≤ (x13_1 : Int) := od_
      have q601 : x13_1 < (l2.length : Int) := od_
      obtain ⟨ad601, e601, hx601_0, hx601_1, hx601_2⟩ := at_T160 HR2.out x13_1 p601 q601
      cases e601
      replace hx601_0 := bc_ HB.out hx601_0
      replace hx601_1 := bc_ HB.out hx601_1
      replace hx601_2 := bc_ HB.out hx601_2
      replace p601 := eq_true p601
      replace q601 := eq_true q601
      obtain ⟨Ao19, co19, eo19⟩ := Kd.R_slice HO_11.out
      subst eo19
      go_wp2_with (first | ((with_reducible refine gate_callee (f := 142) rfl ?_); refine goesL_ (some 38) rfl rfl Try.func142 (by kernel_rfl) rfl #[.slice Ao19 t595.length co19, .int .i64 ((rd_T160 l2 x13_1).f1)] rfl ag_ ?_; (with_reducible refine (spec_l01Has.calls k1 _ _ t595 ((rd_T160 l2 x13_1).f1) false _ ?side1 ?side2 A14.out).mono ?_); (case side1 => exact r7_ HO_11.out); (case side2 => exact (Kd.R_reads' HO_11.out).2.1); rintro e w' ⟨rfl, ⟨nd, rfl⟩⟩; refine ⟨_, rfl, ?_⟩))
      go_roundg k1
      case measure => have := HK1.out; omega
      case rel => exact ⟨(x12_1), (wrap64 (x13_1 + 1)), (by first | rfl | (simp; done) | (simp [*]; done)), H', ⟨by have := HK1.out; omega⟩, ⟨rk_ HO_11.out⟩, ⟨rk_ HO_12.out⟩, ⟨bl_ HB.out⟩⟩
    ·rw [if_neg c12] at H
     have c12b0 : decide (x13_1 < (l2.length : Int)) = false := decide_eq_false c12
     clear c12
     simp only [Option.some.injEq, Prod.mk.injEq] at H
     obtain ⟨rfl, rfl⟩ := H
     go_wp2
     go_ret2
     exact ⟨_, by first | rfl | (simp [errW_none, errW_some] <;> rfl) | (simp [*, errW_none, errW_some] <;> rfl), rk_ (Kd.R_mono HO_12.out (fun _ hk => trivial)), bl_ HB.out⟩
 ·rw [if_neg c6] at H
  have c6b0 : (t594 == 0) = false := beq_eq_false_iff_ne.mpr c6
  have c6b1 : (t594 != 0) = true := bne_iff_ne.mpr c6
  simp only [Option.some.injEq, Prod.mk.injEq] at H
  obtain ⟨rfl, rfl⟩ := H
  go_enter Try.func41, Try.ntmps41
  go_wp2_with (first | ((with_reducible refine gate_callee (f := 126) rfl ?_); refine goesL_ (some 18) rfl rfl Try.func126 (by kernel_rfl) rfl #[.slice A0 l0.length c0, .int .i64 a1, .slice A2 l2.length c2, .int .i64 a3, .int .i64 0] rfl ag_ ?_; (with_reducible refine (spec_l13Code.calls k _ _ l0 a1 _ _ l2 a3 0 t594 _ ?side1 ?side2 ?side3 ?side4 A5.out).mono ?_); (case side1 => exact r9_ HR0.out); (case side2 => exact HC0.out); (case side3 => exact r9_ HR2.out); (case side4 => exact HC2.out); rintro e w20 ⟨rfl, hb⟩; refine ⟨_, rfl, ?_⟩; replace HB := Aside0.mk (below_step (bl_ HB.out) hb); (try clear hb); (try clear hb2); (try clear hk); (try clear hi)))
  go_ret2
  exact ⟨_, by first | rfl | (simp [errW_none, errW_some] <;> rfl) | (simp [*, errW_none, errW_some] <;> rfl), by first | exact Kd.R_nil _ _ _ _ _ | exact Kd.N_nil _ _ _ _ _ | exact Kd.V_nil _ _ _ _ _ | exact Kd.Q_nil _ _ _ _ _ | exact Kd.S_nil _ _ _ _ _, bl_ HB.out⟩
end
section
attribute [local go_sem high] eqA160
def laws_likeWires.l0 : Nat → List (S160) → List (S160) → Int → Option (Bool)
 | 0, _, _, _ => none
 | k + 1, x0, x1, x5 => if x5 < (x0.length : Int) then (if 0 ≤ x5 then (if x5 < (x1.length : Int) then (if (!(((rd_T160 x0 x5).f0) == ((rd_T160 x1 x5).f0)) || (!(((rd_T160 x0 x5).f1) == ((rd_T160 x1 x5).f1)) || (!(((rd_T160 x0 x5).f2) == ((rd_T160 x1 x5).f2))))) = true then (some false) else (laws_likeWires.l0 k x0 x1 (wrap64 (x5 + 1)))) else (none)) else (none)) else (some true)
def laws_likeWires.f (k : Nat) (l0 : List (S160)) (l1 : List (S160)) : Option (Bool) := if (l0.length : Int) = (l1.length : Int) then (laws_likeWires.l0 k l0 l1 0) else (some false)
set_option maxHeartbeats 8000000 in
set_option maxRecDepth 100000 in
theorem laws_likeWires.calls (k : Nat) (A0 : Option Addr) (c0 : Nat) (l0 : List (S160)) (A1 : Option Addr) (c1 : Nat) (l1 : List (S160)) (r : Bool) (w : World) (hr0 : Kd.C k160 w A0 l0.length l0) (hc0 : l0.length ≤ c0) (hr1 : Kd.C k160 w A1 l1.length l1) (hc1 : l1.length ≤ c1) (h : laws_likeWires.f k l0 l1 = some r) :
  Calls Try.prog 42 #[.slice A0 l0.length c0, .slice A1 l1.length c1] w fun e w' => e = .returned (.bool r) ∧ Drawn0 w w' := by
 have hu160 := Try.underlying160
 have HR0 := Aside0.mk hr0
 have HC0 := Aside0.mk hc0
 clear hr0 hc0
 have HR1 := Aside0.mk hr1
 have HC1 := Aside0.mk hc1
 clear hr1 hc1
 have H : (if (l0.length : Int) = (l1.length : Int) then (laws_likeWires.l0 k l0 l1 0) else (some false)) = some r := h
 clear h
 by_cases c3 : (l0.length : Int) = (l1.length : Int)
 ·rw [if_pos c3] at H
  have c3b0 : ((l0.length : Int) == (l1.length : Int)) = true := beq_iff_eq.mpr c3
  have c3b1 : ((l0.length : Int) != (l1.length : Int)) = false := bne_eq_false_iff_eq.mpr c3
  have c3b2 : (l0.length == l1.length) = true := by first | simpa using c3 | (simp at c3 ⊢; omega)
  clear c3
  have H' := Aside0.mk H
  clear H
  go_enter Try.func42, Try.ntmps42
  go_wp2
  repeat (go_quiet (fail); try go_wp2)
  go_loopg [5] k (fun kq v5 w' => ∃ (x5_1 : Int), v5 = .int .i64 x5_1 ∧ Aside0 (laws_likeWires.l0 kq l0 l1 x5_1 = some r) ∧ Aside0 (kq ≤ k) ∧ Drawn0 w w')
  case atStart => exact ⟨(0), (by first | rfl | (simp; done) | (simp [*]; done)), H', ⟨Nat.le_refl _⟩, by repeat (first | exact Drawn0.refl _ | apply Drawn0.step)⟩
  case round =>
   clear H'
   try clear c1
   try clear p2
   try clear c3
   try clear c3b0
   try clear c3b1
   try clear c3b2
   obtain ⟨x5_1, rfl, HA, HK1, ⟨m1, rfl⟩⟩ := hrel
   cases gk with
   | zero => exact absurd HA.out (by simp [laws_likeWires.l0])
   | succ k1 =>
    have H := HA.out
    clear HA
    simp only [laws_likeWires.l0] at H
    by_cases c4 : x5_1 < (l0.length : Int)
    ·rw [if_pos c4] at H
     have c4b0 : decide (x5_1 < (l0.length : Int)) = true := decide_eq_true c4
     clear c4
     by_cases c5 : 0 ≤ x5_1
     case neg =>
      rw [if_neg c5] at H
      exact absurd H (by simp)
     rw [if_pos c5] at H
     have c5b0 : decide (0 ≤ x5_1) = true := decide_eq_true c5
     clear c5
     by_cases c6 : x5_1 < (l1.length : Int)
     case neg =>
      rw [if_neg c6] at H
      exact absurd H (by simp)
     rw [if_pos c6] at H
     have c6b0 : decide (x5_1 < (l1.length : Int)) = true := decide_eq_true c6
     clear c6
     by_cases c7 : (!(((rd_T160 l0 x5_1).f0) == ((rd_T160 l1 x5_1).f0)) || (!(((rd_T160 l0 x5_1).f1) == ((rd_T160 l1 x5_1).f1)) || (!(((rd_T160 l0 x5_1).f2) == ((rd_T160 l1 x5_1).f2))))) = true
     ·rw [if_pos c7] at H
      have c7b0 : (!(((rd_T160 l0 x5_1).f0) == ((rd_T160 l1 x5_1).f0)) || (!(((rd_T160 l0 x5_1).f1) == ((rd_T160 l1 x5_1).f1)) || (!(((rd_T160 l0 x5_1).f2) == ((rd_T160 l1 x5_1).f2))))) = true := c7
      clear c7
      obtain rfl := Option.some.inj H
      have p607 : 0 ≤ (x5_1 : Int) := od_
      have q607 : x5_1 < (l0.length : Int) := od_
      obtain ⟨ad607, e607, hx607_0, hx607_1, hx607_2⟩ := at_T160 HR0.out x5_1 p607 q607
      cases e607
      replace p607 := eq_true p607
      replace q607 := eq_true q607
      have p608 : 0 ≤ (x5_1 : Int) := od_
      have q608 : x5_1 < (l1.length : Int) := od_
      obtain ⟨ad608, e608, hx608_0, hx608_1, hx608_2⟩ := at_T160 HR1.out x5_1 p608 q608
      cases e608
      replace p608 := eq_true p608
      replace q608 := eq_true q608
      go_wp2
      repeat (go_quiet (fail); try go_wp2)
      go_ret
      exact ⟨by first | rfl | (simp; done) | (simp [*]; done), by repeat (first | exact Drawn0.refl _ | apply Drawn0.step)⟩
     ·rw [if_neg c7] at H
      have c7b0 : (!(((rd_T160 l0 x5_1).f0) == ((rd_T160 l1 x5_1).f0)) || (!(((rd_T160 l0 x5_1).f1) == ((rd_T160 l1 x5_1).f1)) || (!(((rd_T160 l0 x5_1).f2) == ((rd_T160 l1 x5_1).f2))))) = false := by simpa using c7
      clear c7
      have H' := Aside0.mk H
      clear H
      have p607 : 0 ≤ (x5_1 : Int) := od_
      have q607 : x5_1 < (l0.length : Int) := od_
      obtain ⟨ad607, e607, hx607_0, hx607_1, hx607_2⟩ := at_T160 HR0.out x5_1 p607 q607
      cases e607
      replace p607 := eq_true p607
      replace q607 := eq_true q607
      have p608 : 0 ≤ (x5_1 : Int) := od_
      have q608 : x5_1 < (l1.length : Int) := od_
      obtain ⟨ad608, e608, hx608_0, hx608_1, hx608_2⟩ := at_T160 HR1.out x5_1 p608 q608
      cases e608
      replace p608 := eq_true p608
      replace q608 := eq_true q608
      go_wp2
      repeat (go_quiet (fail); try go_wp2)
      go_roundg k1
      case measure => have := HK1.out; omega
      case rel => exact ⟨(wrap64 (x5_1 + 1)), (by first | rfl | (simp; done) | (simp [*]; done)), H', ⟨by have := HK1.out; omega⟩, by repeat (first | exact Drawn0.refl _ | apply Drawn0.step)⟩
    ·rw [if_neg c4] at H
     have c4b0 : decide (x5_1 < (l0.length : Int)) = false := decide_eq_false c4
     clear c4
     obtain rfl := Option.some.inj H
     go_wp2
     repeat (go_quiet (fail); try go_wp2)
     go_ret
     exact ⟨by first | rfl | (simp; done) | (simp [*]; done), by repeat (first | exact Drawn0.refl _ | apply Drawn0.step)⟩
 ·rw [if_neg c3] at H
  have c3b0 : ((l0.length : Int) == (l1.length : Int)) = false := beq_eq_false_iff_ne.mpr c3
  have c3b1 : ((l0.length : Int) != (l1.length : Int)) = true := bne_iff_ne.mpr c3
  have c3b2 : (l0.length == l1.length) = false := by first | simpa using c3 | (simp at c3 ⊢; omega)
  obtain rfl := Option.some.inj H
  go_enter Try.func42, Try.ntmps42
  go_wp2
  repeat (go_quiet (fail); try go_wp2)
  go_ret
  exact ⟨by first | rfl | (simp; done) | (simp [*]; done), by repeat (first | exact Drawn0.refl _ | apply Drawn0.step)⟩
end
end Go.Proofs.Ytedcdhnbceaaeaa.PFnWired
