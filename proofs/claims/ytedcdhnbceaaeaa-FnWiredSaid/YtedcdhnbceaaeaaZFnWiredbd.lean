/- QFnWiredg of the law FnWired: taken over, declaration by declaration, as far as the law leans on it (the words and the printed functions are the kit's own print). No condition but what each says. -/
import Derived.Test.YtedcdhnbceaaeaaZFnWiredav
import Derived.Test.YtedcdhnbceaaeaaZFnWiredaw
import Derived.Test.YtedcdhnbceaaeaaZFnWiredax
import Derived.Test.YtedcdhnbceaaeaaZFnWiredaz
import Derived.Test.YtedcdhnbceaaeaaZFnWiredba
import Derived.Test.YtedcdhnbceaaeaaZFnWiredbb
import Derived.Test.YtedcdhnbceaaeaaZFnWiredbc
namespace Go.Proofs.Ytedcdhnbceaaeaa.PFnWired
open Go.RowKit Go.Proofs.YtedcdhnbceaaeaaW.PrintWords Go.Proofs.YtedcdhnbceaaeaaW.PrintLast Go.Proofs.YtedcdhnbceaaeaaW.PrintMore
attribute [local go_sem] max2_int min2_int max_two min_two max_three min_three max_four min_four   -- for this text's walks alone
set_option linter.unusedVariables false
set_option linter.unusedSimpArgs false
open Bool renaming true → t_, false → f_
def spec_l13Join.l0 : Nat → List (S200) → List (S160) → Int → Int → Option ((List (S160)) × Bool)
 | 0, _, _, _, _ => none
 | k + 1, x0, x1, x2, x8 => if x8 < (x0.length : Int) then ((spec_l13Free.f k x0 x1 x8).bind fun t408 => (if (t408.length : Int) > 0 then (if 0 < (t408.length : Int) then ((spec_l13With.f k x1 x2 x8 (rd t408 0)).bind fun t412 => (some (t412, true))) else (none)) else (spec_l13Join.l0 k x0 x1 x2 (wrap64 (x8 + 1))))) else (some (([] : List (S160)), false))
def spec_l13Join.f (k : Nat) (l0 : List (S200)) (l1 : List (S160)) (a2 : Int) : Option ((List (S160)) × Bool) := spec_l13Join.l0 k l0 l1 a2 0
set_option maxHeartbeats 8000000 in
set_option maxRecDepth 100000 in
theorem spec_l13Join.calls (k : Nat) (A0 : Option Addr) (c0 : Nat) (l0 : List (S200)) (A1 : Option Addr) (c1 : Nat) (l1 : List (S160)) (a2 : Int) (r1 : List (S160)) (r2 : Bool) (w : World) (hr0 : Kd.C k200 w A0 l0.length l0) (hc0 : l0.length ≤ c0) (hr1 : Kd.C k160 w A1 l1.length l1) (hc1 : l1.length ≤ c1) (h : spec_l13Join.f k l0 l1 a2 = some (r1, r2)) :
  Calls Try.prog 128 #[.slice A0 l0.length c0, .slice A1 l1.length c1, .int .i64 a2] w fun e w' => ∃ v0_ : Value, e = .returned (.tuple #[v0_, .bool r2]) ∧ Kd.R k160 160 w' w.heap.size (fun _ => True) v0_ r1 ∧ Below w.heap.size w w' := by
 have hu160 := Try.underlying160
 have HR0 := Aside0.mk hr0
 have HC0 := Aside0.mk hc0
 clear hr0 hc0
 have HR1 := Aside0.mk hr1
 have HC1 := Aside0.mk hc1
 clear hr1 hc1
 have HB := Aside0.mk (Below.refl w.heap.size w)
 have H : (spec_l13Join.l0 k l0 l1 a2 0) = some (r1, r2) := h
 clear h
 have H' := Aside0.mk H
 clear H
 go_enter Try.func128, Try.ntmps128
 go_wp2
 go_loopg [8] k (fun kq v8 w' => ∃ (x8_1 : Int), v8 = .int .i64 x8_1 ∧ Aside0 (spec_l13Join.l0 kq l0 l1 a2 x8_1 = some (r1, r2)) ∧ Aside0 (kq ≤ k) ∧ Aside0 (Below w.heap.size w w'))
 case atStart => exact ⟨(0), (by first | rfl | (simp; done) | (simp [*]; done)), H', ⟨Nat.le_refl _⟩, ⟨bl_ HB.out⟩⟩
 case round =>
  clear H'
  try clear c1
  try clear p2
  obtain ⟨x8_1, rfl, HA, HK1, HB⟩ := hrel
  cases gk with
  | zero => exact absurd HA.out (by simp [spec_l13Join.l0])
  | succ k1 =>
   have H := HA.out
   clear HA
   simp only [spec_l13Join.l0] at H
   by_cases c4 : x8_1 < (l0.length : Int)
   ·rw [if_pos c4] at H
    have c4b0 : decide (x8_1 < (l0.length : Int)) = true := decide_eq_true c4
    clear c4
    replace H := Option.bind_eq_some_iff.mp H
    obtain ⟨t408, A50, H⟩ := H
    replace H : (if (t408.length : Int) > 0 then (if 0 < (t408.length : Int) then ((spec_l13With.f k1 l1 a2 x8_1 (rd t408 0)).bind fun t412 => (some (t412, true))) else (none)) else (spec_l13Join.l0 k1 l0 l1 a2 (wrap64 (x8_1 + 1)))) = some (r1, r2) := H
    have A5 := Aside0.mk A50
    clear A50
    by_cases c6 : (t408.length : Int) > 0
    ·rw [if_pos c6] at H
     have c6b0 : decide (0 < (t408.length : Int)) = true := decide_eq_true c6
     have c6b1 : decide (0 < t408.length) = true := decide_eq_true (by omega)
     clear c6
     by_cases c7 : 0 < (t408.length : Int)
     case neg =>
      rw [if_neg c7] at H
      exact absurd H (by simp)
     rw [if_pos c7] at H
     have c7b0 : decide (0 < (t408.length : Int)) = true := decide_eq_true c7
     have c7b1 : decide (0 < t408.length) = true := decide_eq_true (by omega)
     clear c7
     replace H := Option.bind_eq_some_iff.mp H
     obtain ⟨t412, A80, H⟩ := H
     replace H : (some (t412, true)) = some (r1, r2) := H
     have A8 := Aside0.mk A80
     clear A80
     simp only [Option.some.injEq, Prod.mk.injEq] at H
     obtain ⟨rfl, rfl⟩ := H
     go_wp2_with (first | ((with_reducible refine gate_callee (f := 204) rfl ?_); refine goesL_ (some 19) rfl rfl Try.func204 (by kernel_rfl) rfl #[.slice A0 l0.length c0, .slice A1 l1.length c1, .int .i64 x8_1] rfl ag_ ?_; (with_reducible refine (spec_l13Free.calls k1 _ _ l0 _ _ l1 x8_1 t408 _ ?side1 ?side2 ?side3 ?side4 A5.out).mono ?_); (case side1 => exact r5_ HR0.out HB.out); (case side2 => exact HC0.out); (case side3 => exact r5_ HR1.out HB.out); (case side4 => exact HC1.out); rintro e w9 ⟨v409, rfl, ho0, hb⟩; refine ⟨_, rfl, ?_⟩; have HO410 := Aside0.mk (Kd.R_lower ho0 (below_size (bl_ HB.out))); replace HB := Aside0.mk (below_step (bl_ HB.out) hb); (try clear hb); (try clear hb2); (try clear hk); (try clear hi); (try clear ho0); obtain ⟨Ao10, co10, eo10⟩ := Kd.R_slice HO410.out; subst eo10; have p411 : 0 ≤ (0 : Int) := (by omega); have q411 : 0 < (t408.length : Int) := od_; obtain ⟨ad411, e411, hx411_0⟩ := Kd.at_int (Kd.R_reads' HO410.out).2.2 0 p411 q411; cases e411; have qi411 : (0 < t408.length) = True := eq_true (by omega); (try rw [show ((0 : Int)).toNat = 0 from rfl] at hx411_0); (try rw [Addr.add_zero'] at hx411_0); replace p411 := eq_true p411; replace q411 := eq_true q411) | ((with_reducible refine gate_callee (f := 205) rfl ?_); refine goesL_ (some 30) rfl rfl Try.func205 (by kernel_rfl) rfl #[.slice A1 l1.length c1, .agg #[.int .i64 a2, .int .i64 x8_1, .int .i64 (rd t408 0)]] rfl ag_ ?_; (with_reducible refine (spec_l13With.calls k1 _ _ l1 a2 x8_1 (rd t408 0) t412 _ ?side1 ?side2 A8.out).mono ?_); (case side1 => exact r5_ HR1.out HB.out); (case side2 => exact HC1.out); rintro e w11 ⟨v413, rfl, ho0, hb⟩; refine ⟨_, rfl, ?_⟩; replace HO410 := Aside0.mk (Kd.R_below (rk_ HO410.out) hb); have HO414 := Aside0.mk (Kd.R_lower ho0 (below_size (bl_ HB.out))); replace HB := Aside0.mk (below_step (bl_ HB.out) hb); (try clear hb); (try clear hb2); (try clear hk); (try clear hi); (try clear ho0)))
     go_ret2
     exact ⟨_, by first | rfl | (simp [errW_none, errW_some] <;> rfl) | (simp [*, errW_none, errW_some] <;> rfl), rk_ HO414.out, bl_ HB.out⟩
    ·rw [if_neg c6] at H
     have c6b0 : decide (0 < (t408.length : Int)) = false := decide_eq_false c6
     have c6b1 : decide (0 < t408.length) = false := decide_eq_false (by omega)
     clear c6
     have H' := Aside0.mk H
     clear H
     go_wp2_with (first | ((with_reducible refine gate_callee (f := 204) rfl ?_); refine goesL_ (some 19) rfl rfl Try.func204 (by kernel_rfl) rfl #[.slice A0 l0.length c0, .slice A1 l1.length c1, .int .i64 x8_1] rfl ag_ ?_; (with_reducible refine (spec_l13Free.calls k1 _ _ l0 _ _ l1 x8_1 t408 _ ?side1 ?side2 ?side3 ?side4 A5.out).mono ?_); (case side1 => exact r5_ HR0.out HB.out); (case side2 => exact HC0.out); (case side3 => exact r5_ HR1.out HB.out); (case side4 => exact HC1.out); rintro e w12 ⟨v409, rfl, ho0, hb⟩; refine ⟨_, rfl, ?_⟩; have HO410 := Aside0.mk (Kd.R_lower ho0 (below_size (bl_ HB.out))); replace HB := Aside0.mk (below_step (bl_ HB.out) hb); (try clear hb); (try clear hb2); (try clear hk); (try clear hi); (try clear ho0); obtain ⟨Ao13, co13, eo13⟩ := Kd.R_slice HO410.out; subst eo13))
     go_roundg k1
     case measure => have := HK1.out; omega
     case rel => exact ⟨(wrap64 (x8_1 + 1)), (by first | rfl | (simp; done) | (simp [*]; done)), H', ⟨by have := HK1.out; omega⟩, ⟨bl_ HB.out⟩⟩
   ·rw [if_neg c4] at H
    have c4b0 : decide (x8_1 < (l0.length : Int)) = false := decide_eq_false c4
    clear c4
    simp only [Option.some.injEq, Prod.mk.injEq] at H
    obtain ⟨rfl, rfl⟩ := H
    go_wp2
    go_ret2
    exact ⟨_, by first | rfl | (simp [errW_none, errW_some] <;> rfl) | (simp [*, errW_none, errW_some] <;> rfl), by first | exact Kd.R_nil _ _ _ _ _ | exact Kd.N_nil _ _ _ _ _ | exact Kd.V_nil _ _ _ _ _ | exact Kd.Q_nil _ _ _ _ _ | exact Kd.S_nil _ _ _ _ _, bl_ HB.out⟩
def spec_WireAll.l0 : Nat → List (S200) → List (S160) → List Int → Int → Option ((List (S160)) × Int)
 | 0, _, _, _, _ => none
 | k + 1, x0, x9, x10, x11 => if x11 < (x10.length : Int) then (if 0 ≤ x11 then ((spec_l13Join.f k x0 x9 (rd x10 x11)).bind fun bt426 => (if bt426.2 = true then (spec_WireAll.l0 k x0 bt426.1 x10 (wrap64 (x11 + 1))) else (some (([] : List (S160)), 4)))) else (none)) else (some (x9, 0))
def spec_WireAll.f (k : Nat) (l0 : List (S200)) (a1 : Int) (l2 : List (S160)) : Option ((List (S160)) × Int) := (spec_l13Code.f k l0 a1 l2 0 0).bind fun t415 => (if t415 = 0 then ((some (([] : List (S160)) : List (S160))).bind fun y416 => (if y416.length + l2.length < 5864062014805 then ((spec_l13Loose.f k a1 l2).bind fun t422 => (spec_WireAll.l0 k l0 (y416 ++ l2) t422 0)) else (none))) else (some (([] : List (S160)), t415)))
set_option maxHeartbeats 8000000 in
set_option maxRecDepth 100000 in
theorem spec_WireAll.calls (k : Nat) (A0 : Option Addr) (c0 : Nat) (l0 : List (S200)) (a1 : Int) (A2 : Option Addr) (c2 : Nat) (l2 : List (S160)) (r1 : List (S160)) (r2 : Int) (w : World) (hr0 : Kd.C k200 w A0 l0.length l0) (hc0 : l0.length ≤ c0) (hr2 : Kd.C k160 w A2 l2.length l2) (hc2 : l2.length ≤ c2) (h : spec_WireAll.f k l0 a1 l2 = some (r1, r2)) :
  Calls Try.prog 32 #[.slice A0 l0.length c0, .int .i64 a1, .slice A2 l2.length c2] w fun e w' => ∃ v0_ : Value, e = .returned (.tuple #[v0_, .int .i64 r2]) ∧ Kd.R k160 160 w' w.heap.size (fun _ => True) v0_ r1 ∧ Below w.heap.size w w' := by
 have HR0 := Aside0.mk hr0
 have HC0 := Aside0.mk hc0
 clear hr0 hc0
 have HR2 := Aside0.mk hr2
 have HC2 := Aside0.mk hc2
 clear hr2 hc2
 have HB := Aside0.mk (Below.refl w.heap.size w)
 have H : ((spec_l13Code.f k l0 a1 l2 0 0).bind fun t415 => (if t415 = 0 then ((some (([] : List (S160)) : List (S160))).bind fun y416 => (if y416.length + l2.length < 5864062014805 then ((spec_l13Loose.f k a1 l2).bind fun t422 => (spec_WireAll.l0 k l0 (y416 ++ l2) t422 0)) else (none))) else (some (([] : List (S160)), t415)))) = some (r1, r2) := h
 clear h
 replace H := Option.bind_eq_some_iff.mp H
 obtain ⟨t415, A40, H⟩ := H
 replace H : (if t415 = 0 then ((some (([] : List (S160)) : List (S160))).bind fun y416 => (if y416.length + l2.length < 5864062014805 then ((spec_l13Loose.f k a1 l2).bind fun t422 => (spec_WireAll.l0 k l0 (y416 ++ l2) t422 0)) else (none))) else (some (([] : List (S160)), t415))) = some (r1, r2) := H
 have A4 := Aside0.mk A40
 clear A40
 by_cases c5 : t415 = 0
 ·rw [if_pos c5] at H
  have c5b0 : (t415 == 0) = true := beq_iff_eq.mpr c5
  have c5b1 : (t415 != 0) = false := bne_eq_false_iff_eq.mpr c5
  clear c5
  obtain ⟨y416, hy416⟩ : ∃ y_ : List (S160), y_ = (([] : List (S160))) := ⟨_, rfl⟩
  replace H : (if y416.length + l2.length < 5864062014805 then ((spec_l13Loose.f k a1 l2).bind fun t422 => (spec_WireAll.l0 k l0 (y416 ++ l2) t422 0)) else (none)) = some (r1, r2) := by first | (rw [hy416]; with_reducible exact H) | (have H2_ := (Option.bind_some _ _).symm.trans H; rw [hy416]; with_reducible exact H2_) | (have H2_ := (Option.bind_some _ _).symm.trans H; with_reducible exact H2_) | with_reducible exact H | (rw [hy416]; exact H) | exact H
  have Ny416 := Aside0.mk hy416
  clear hy416
  by_cases c6 : y416.length + l2.length < 5864062014805
  case neg =>
   rw [if_neg c6] at H
   exact absurd H (by simp)
  rw [if_pos c6] at H
  have LMc6 := Aside0.mk c6
  clear c6
  obtain ⟨y419, hy419⟩ : ∃ y_ : List (S160), y_ = (y416 ++ l2) := ⟨_, rfl⟩
  replace H : ((spec_l13Loose.f k a1 l2).bind fun t422 => (spec_WireAll.l0 k l0 y419 t422 0)) = some (r1, r2) := by first | (rw [hy419]; with_reducible exact H) | (have H2_ := (Option.bind_some _ _).symm.trans H; rw [hy419]; with_reducible exact H2_) | (have H2_ := (Option.bind_some _ _).symm.trans H; with_reducible exact H2_) | with_reducible exact H | (rw [hy419]; exact H) | exact H
  have Ny419 := Aside0.mk hy419
  clear hy419
  replace H := Option.bind_eq_some_iff.mp H
  obtain ⟨t422, A70, H⟩ := H
  replace H : (spec_WireAll.l0 k l0 y419 t422 0) = some (r1, r2) := H
  have A7 := Aside0.mk A70
  clear A70
  have H' := Aside0.mk H
  clear H
  go_enter Try.func32, Try.ntmps32
  go_wp2_with (first | ((with_reducible refine gate_callee (f := 126) rfl ?_); refine goesL_ (some 17) rfl rfl Try.func126 (by kernel_rfl) rfl #[.slice A0 l0.length c0, .int .i64 a1, .slice A2 l2.length c2, .int .i64 0, .int .i64 0] rfl ag_ ?_; (with_reducible refine (spec_l13Code.calls k _ _ l0 a1 _ _ l2 0 0 t415 _ ?side1 ?side2 ?side3 ?side4 A4.out).mono ?_); (case side1 => exact r9_ HR0.out); (case side2 => exact HC0.out); (case side3 => exact r9_ HR2.out); (case side4 => exact HC2.out); rintro e w8 ⟨rfl, hb⟩; refine ⟨_, rfl, ?_⟩; replace HB := Aside0.mk (below_step (bl_ HB.out) hb); (try clear hb); (try clear hb2); (try clear hk); (try clear hi)) | ((with_reducible refine gate_dst (N := 21) rfl ?_); refine Kd.R_lit k160 _ 160 ?hg (N := 21) ?hd (xs := ([] : List (S160))) (inner := []) (ok := fun _ => True) (okp := fun _ => True) ?hr ?hp (fun _ hk => hk) trivial (Below.refl _ _) (Nat.le_refl _) (by simp) ?_; (case hd => rfl); (case hg => rfl); (case hr => first | (go_simp; done) | (go_simp; rfl)); (case hp => exact (Reps.none _ _)); intro v417 w9 ho10 hb hg_ hnew_; clear hg_ hnew_; (first | rw [← Ny416.out] at ho10 | (simp only [Int.reduceToNat] at ho10; rw [← Ny416.out] at ho10)); have HO418 := Aside0.mk (Kd.R_lower ho10 (below_size (bl_ HB.out))); replace HB := Aside0.mk (below_step (bl_ HB.out) hb); clear hb ho10) | ((with_reducible refine gate_builtin (b := .append) (xs := #[.tmp 21, .tmp 22]) rfl ?_); at_builtin; refine Kd.R_append_rows k160 (w0 := w) w.heap.size rfl (.tmp 21) (.tmp 22) 44 160 (.agg #[(.int .i64 0), (.int .i64 0), (.int .i64 0)]) 24 rfl Try.underlying44 info160 rfl (by decide) (by omega) v417 y416 l2 _ _ _ (fun _ => True) (fun _ => False) rfl rfl ?aO ?aR (fun _ _ h => h) (fun _ h => h.elim) ?aF ?aB ?aS ?aL ?_; (case aR => exact r5_ HR2.out HB.out); (case aB => exact (bl_ HB.out)); (case aF => exact (fun _ _ => trivial)); (case aO => exact (rk_ HO418.out)); (case aS => exact (below_size (bl_ HB.out))); (case aL => have := LMc6.out; omega); intro v420 w11 ho hb hg hat; rw [← Ny419.out] at ho; have n0_ := Aside0.mk (hb); have n1_ := Aside0.mk (ho); clear HB; clear HO418; have HB := n0_; have HO421 := n1_; clear n0_ n1_; clear ho hb hg hat) | ((with_reducible refine gate_callee (f := 127) rfl ?_); refine goesL_ (some 26) rfl rfl Try.func127 (by kernel_rfl) rfl #[.int .i64 a1, .slice A2 l2.length c2] rfl ag_ ?_; (with_reducible refine (spec_l13Loose.calls k a1 _ _ l2 t422 _ ?side1 ?side2 A7.out).mono ?_); (case side1 => exact r5_ HR2.out HB.out); (case side2 => exact HC2.out); rintro e w12 ⟨v423, rfl, ho0, hb⟩; refine ⟨_, rfl, ?_⟩; replace HO421 := Aside0.mk (Kd.R_below (rk_ HO421.out) hb); have HO424 := Aside0.mk (Kd.R_lower ho0 (below_size (bl_ HB.out))); replace HB := Aside0.mk (below_step (bl_ HB.out) hb); (try clear hb); (try clear hb2); (try clear hk); (try clear hi); (try clear ho0)))
  go_loopg [9, 11] k (fun kq v9 v11 w' => ∃ (x9_1 : List (S160)) (x11_1 : Int), v11 = .int .i64 x11_1 ∧ Aside0 (spec_WireAll.l0 kq l0 x9_1 t422 x11_1 = some (r1, r2)) ∧ Aside0 (kq ≤ k) ∧ Aside0 (Kd.R k160 160 w' w.heap.size (fun _ => True) v9 x9_1) ∧ Aside0 (Kd.R (Kd.int .i64) 2 w' w.heap.size (fun _ => True) v423 t422) ∧ Aside0 (Below w.heap.size w w'))
  case atStart => exact ⟨(y419), (0), (by first | rfl | (simp; done) | (simp [*]; done)), H', ⟨Nat.le_refl _⟩, ⟨rk_ HO421.out⟩, ⟨rk_ HO424.out⟩, ⟨bl_ HB.out⟩⟩
  case round =>
   clear H'
   try clear c1
   try clear c2
   try clear p2
   try clear c3
   try clear c5
   try clear c5b0
   try clear c5b1
   try clear c6
   try clear c12
   obtain ⟨x9_1, x11_1, rfl, HA, HK1, HO_9, HO_10, HB⟩ := hrel
   cases gk with
   | zero => exact absurd HA.out (by simp [spec_WireAll.l0])
   | succ k1 =>
    have H := HA.out
    clear HA
    simp only [spec_WireAll.l0] at H
    by_cases c13 : x11_1 < (t422.length : Int)
    ·rw [if_pos c13] at H
     have c13b0 : decide (x11_1 < (t422.length : Int)) = true := decide_eq_true c13
     clear c13
     by_cases c14 : 0 ≤ x11_1
     case neg =>
      rw [if_neg c14] at H
      exact absurd H (by simp)
     rw [if_pos c14] at H
     have c14b0 : decide (0 ≤ x11_1) = true := decide_eq_true c14
     clear c14
     replace H := Option.bind_eq_some_iff.mp H
     obtain ⟨⟨t426, t427⟩, A150, H⟩ := H
     replace H : (if t427 = true then (spec_WireAll.l0 k1 l0 t426 t422 (wrap64 (x11_1 + 1))) else (some (([] : List (S160)), 4))) = some (r1, r2) := H
     have A15 := Aside0.mk A150
     clear A150
     by_cases c16 : t427 = true
     ·subst c16
      replace H : (spec_WireAll.l0 k1 l0 t426 t422 (wrap64 (x11_1 + 1))) = some (r1, r2) := by rw [if_pos rfl] at H; exact H
      have H' := Aside0.mk H
      clear H
      obtain ⟨Ao17, co17, eo17⟩ := Kd.R_slice HO_10.out
      subst eo17
      have p425 : 0 ≤ (x11_1 : Int) := od_
      have q425 : x11_1 < (t422.length : Int) := od_
      obtain ⟨ad425, e425, hx425_0⟩ := Kd.at_int (Kd.R_reads' HO_10.out).2.2 x11_1 p425 q425
      cases e425
      replace p425 := eq_true p425
      replace q425 := eq_true q425
      obtain ⟨Ao18, co18, eo18⟩ := Kd.R_slice HO_9.out
      subst eo18
      go_wp2_with (first | ((with_reducible refine gate_callee (f := 128) rfl ?_); refine goesL_ (some 40) rfl rfl Try.func128 (by kernel_rfl) rfl #[.slice A0 l0.length c0, .slice Ao18 x9_1.length co18, .int .i64 (rd t422 x11_1)] rfl ag_ ?_; (with_reducible refine (spec_l13Join.calls k1 _ _ l0 _ _ x9_1 (rd t422 x11_1) t426 true _ ?side1 ?side2 ?side3 ?side4 A15.out).mono ?_); (case side1 => exact r5_ HR0.out HB.out); (case side2 => exact HC0.out); (case side3 => exact r7_ HO_9.out); (case side4 => exact (Kd.R_reads' HO_9.out).2.1); rintro e w19 ⟨v428, rfl, ho0, hb⟩; refine ⟨_, rfl, ?_⟩; replace HO_10 := Aside0.mk (Kd.R_below (rk_ HO_10.out) hb); have HO429 := Aside0.mk (Kd.R_lower (Kd.R_new' ho0 (Kd.R_lt (rk_ HO_9.out))) (below_size (bl_ HB.out))); replace HO_9 := Aside0.mk (Kd.R_elder' (rk_ HO_9.out) (Kd.R_base ho0) hb); replace HB := Aside0.mk (below_step (bl_ HB.out) hb); (try clear hb); (try clear hb2); (try clear hk); (try clear hi); (try clear ho0)))
      go_roundg k1
      case measure => have := HK1.out; omega
      case rel => exact ⟨(t426), (wrap64 (x11_1 + 1)), (by first | rfl | (simp; done) | (simp [*]; done)), H', ⟨by have := HK1.out; omega⟩, ⟨rk_ (Kd.R_mono HO429.out (fun _ hk => trivial))⟩, ⟨rk_ HO_10.out⟩, ⟨bl_ HB.out⟩⟩
     ·replace c16 := Bool.eq_false_iff.mpr c16
      subst c16
      replace H : (some (([] : List (S160)), 4)) = some (r1, r2) := by rw [if_neg (show ¬ (false = true) by decide)] at H; exact H
      simp only [Option.some.injEq, Prod.mk.injEq] at H
      obtain ⟨rfl, rfl⟩ := H
      obtain ⟨Ao20, co20, eo20⟩ := Kd.R_slice HO_10.out
      subst eo20
      have p425 : 0 ≤ (x11_1 : Int) := od_
      have q425 : x11_1 < (t422.length : Int) := od_
      obtain ⟨ad425, e425, hx425_0⟩ := Kd.at_int (Kd.R_reads' HO_10.out).2.2 x11_1 p425 q425
      cases e425
      replace p425 := eq_true p425
      replace q425 := eq_true q425
      obtain ⟨Ao21, co21, eo21⟩ := Kd.R_slice HO_9.out
      subst eo21
      go_wp2_with (first | ((with_reducible refine gate_callee (f := 128) rfl ?_); refine goesL_ (some 40) rfl rfl Try.func128 (by kernel_rfl) rfl #[.slice A0 l0.length c0, .slice Ao21 x9_1.length co21, .int .i64 (rd t422 x11_1)] rfl ag_ ?_; (with_reducible refine (spec_l13Join.calls k1 _ _ l0 _ _ x9_1 (rd t422 x11_1) t426 false _ ?side1 ?side2 ?side3 ?side4 A15.out).mono ?_); (case side1 => exact r5_ HR0.out HB.out); (case side2 => exact HC0.out); (case side3 => exact r7_ HO_9.out); (case side4 => exact (Kd.R_reads' HO_9.out).2.1); rintro e w22 ⟨v428, rfl, ho0, hb⟩; refine ⟨_, rfl, ?_⟩; replace HO_10 := Aside0.mk (Kd.R_below (rk_ HO_10.out) hb); have HO429 := Aside0.mk (Kd.R_lower (Kd.R_new' ho0 (Kd.R_lt (rk_ HO_9.out))) (below_size (bl_ HB.out))); replace HO_9 := Aside0.mk (Kd.R_elder' (rk_ HO_9.out) (Kd.R_base ho0) hb); replace HB := Aside0.mk (below_step (bl_ HB.out) hb); (try clear hb); (try clear hb2); (try clear hk); (try clear hi); (try clear ho0)))
      go_ret2
      exact ⟨_, by first | rfl | (simp [errW_none, errW_some] <;> rfl) | (simp [*, errW_none, errW_some] <;> rfl), by first | exact Kd.R_nil _ _ _ _ _ | exact Kd.N_nil _ _ _ _ _ | exact Kd.V_nil _ _ _ _ _ | exact Kd.Q_nil _ _ _ _ _ | exact Kd.S_nil _ _ _ _ _, bl_ HB.out⟩
    ·rw [if_neg c13] at H
     have c13b0 : decide (x11_1 < (t422.length : Int)) = false := decide_eq_false c13
     clear c13
     simp only [Option.some.injEq, Prod.mk.injEq] at H
     obtain ⟨rfl, rfl⟩ := H
     obtain ⟨Ao23, co23, eo23⟩ := Kd.R_slice HO_10.out
     subst eo23
     go_wp2
     go_ret2
     exact ⟨_, by first | rfl | (simp [errW_none, errW_some] <;> rfl) | (simp [*, errW_none, errW_some] <;> rfl), rk_ HO_9.out, bl_ HB.out⟩
 ·rw [if_neg c5] at H
  have c5b0 : (t415 == 0) = false := beq_eq_false_iff_ne.mpr c5
  have c5b1 : (t415 != 0) = true := bne_iff_ne.mpr c5
  simp only [Option.some.injEq, Prod.mk.injEq] at H
  obtain ⟨rfl, rfl⟩ := H
  go_enter Try.func32, Try.ntmps32
  go_wp2_with (first | ((with_reducible refine gate_callee (f := 126) rfl ?_); refine goesL_ (some 17) rfl rfl Try.func126 (by kernel_rfl) rfl #[.slice A0 l0.length c0, .int .i64 a1, .slice A2 l2.length c2, .int .i64 0, .int .i64 0] rfl ag_ ?_; (with_reducible refine (spec_l13Code.calls k _ _ l0 a1 _ _ l2 0 0 t415 _ ?side1 ?side2 ?side3 ?side4 A4.out).mono ?_); (case side1 => exact r9_ HR0.out); (case side2 => exact HC0.out); (case side3 => exact r9_ HR2.out); (case side4 => exact HC2.out); rintro e w24 ⟨rfl, hb⟩; refine ⟨_, rfl, ?_⟩; replace HB := Aside0.mk (below_step (bl_ HB.out) hb); (try clear hb); (try clear hb2); (try clear hk); (try clear hi)))
  go_ret2
  exact ⟨_, by first | rfl | (simp [errW_none, errW_some] <;> rfl) | (simp [*, errW_none, errW_some] <;> rfl), by first | exact Kd.R_nil _ _ _ _ _ | exact Kd.N_nil _ _ _ _ _ | exact Kd.V_nil _ _ _ _ _ | exact Kd.Q_nil _ _ _ _ _ | exact Kd.S_nil _ _ _ _ _, bl_ HB.out⟩
def spec_DrawMoveWire.f (k : Nat) (l0 : List Int) : Option ((List (S200)) × Int × (List (S160)) × Int × Int × Int) := (spec_l01From.f k l0).bind fun bt430 => ((spec_l13Draw.f k bt430.1 bt430.2.1 bt430.2.2).bind fun bt434 => ((spec_l01Next.f bt430.1 bt434.2.2.2.1 bt434.2.2.2.2 (wrap64 (bt434.2.1 + 1))).bind fun bt443 => ((spec_l01Next.f bt430.1 bt443.2.1 bt443.2.2 12).bind fun bt446 => ((spec_l01Next.f bt430.1 bt446.2.1 bt446.2.2 (wrap64 ((bt434.1.length : Int) + (wrap64 (Int.tdiv bt446.1 11))))).bind fun bt449 => ((spec_l01Next.f bt430.1 bt449.2.1 bt449.2.2 6).bind fun bt452 => ((spec_l01Next.f bt430.1 bt452.2.1 bt452.2.2 24).bind fun bt455 => (some (bt434.1, bt434.2.1, bt434.2.2.1, bt443.1, bt449.1, wrap64 (bt452.1 - (wrap64 (Int.tdiv bt455.1 23)))))))))))
set_option maxHeartbeats 8000000 in
set_option maxRecDepth 100000 in
theorem spec_DrawMoveWire.calls (k : Nat) (A0 : Option Addr) (c0 : Nat) (l0 : List Int) (r1 : List (S200)) (r2 : Int) (r3 : List (S160)) (r4 : Int) (r5 : Int) (r6 : Int) (w : World) (hr0 : Kd.C (Kd.int .u8) w A0 l0.length l0) (hc0 : l0.length ≤ c0) (h : spec_DrawMoveWire.f k l0 = some (r1, r2, r3, r4, r5, r6)) :
  Calls Try.prog 33 #[.slice A0 l0.length c0] w fun e w' => ∃ v0_ v2_ : Value, e = .returned (.tuple #[v0_, .int .i64 r2, v2_, .int .i64 r4, .int .i64 r5, .int .i64 r6]) ∧ Kd.R k200 200 w' w.heap.size (fun _ => True) v0_ r1 ∧ Kd.R k160 160 w' w.heap.size (fun _ => True) v2_ r3 ∧ Below w.heap.size w w' := by
 have HR0 := Aside0.mk hr0
 have HC0 := Aside0.mk hc0
 clear hr0 hc0
 have HB := Aside0.mk (Below.refl w.heap.size w)
 have H : ((spec_l01From.f k l0).bind fun bt430 => ((spec_l13Draw.f k bt430.1 bt430.2.1 bt430.2.2).bind fun bt434 => ((spec_l01Next.f bt430.1 bt434.2.2.2.1 bt434.2.2.2.2 (wrap64 (bt434.2.1 + 1))).bind fun bt443 => ((spec_l01Next.f bt430.1 bt443.2.1 bt443.2.2 12).bind fun bt446 => ((spec_l01Next.f bt430.1 bt446.2.1 bt446.2.2 (wrap64 ((bt434.1.length : Int) + (wrap64 (Int.tdiv bt446.1 11))))).bind fun bt449 => ((spec_l01Next.f bt430.1 bt449.2.1 bt449.2.2 6).bind fun bt452 => ((spec_l01Next.f bt430.1 bt452.2.1 bt452.2.2 24).bind fun bt455 => (some (bt434.1, bt434.2.1, bt434.2.2.1, bt443.1, bt449.1, wrap64 (bt452.1 - (wrap64 (Int.tdiv bt455.1 23)))))))))))) = some (r1, r2, r3, r4, r5, r6) := h
 clear h
 replace H := Option.bind_eq_some_iff.mp H
 obtain ⟨⟨t430, t431, t432⟩, A20, H⟩ := H
 replace H : ((spec_l13Draw.f k t430 t431 t432).bind fun bt434 => ((spec_l01Next.f t430 bt434.2.2.2.1 bt434.2.2.2.2 (wrap64 (bt434.2.1 + 1))).bind fun bt443 => ((spec_l01Next.f t430 bt443.2.1 bt443.2.2 12).bind fun bt446 => ((spec_l01Next.f t430 bt446.2.1 bt446.2.2 (wrap64 ((bt434.1.length : Int) + (wrap64 (Int.tdiv bt446.1 11))))).bind fun bt449 => ((spec_l01Next.f t430 bt449.2.1 bt449.2.2 6).bind fun bt452 => ((spec_l01Next.f t430 bt452.2.1 bt452.2.2 24).bind fun bt455 => (some (bt434.1, bt434.2.1, bt434.2.2.1, bt443.1, bt449.1, wrap64 (bt452.1 - (wrap64 (Int.tdiv bt455.1 23))))))))))) = some (r1, r2, r3, r4, r5, r6) := H
 have A2 := Aside0.mk A20
 clear A20
 replace H := Option.bind_eq_some_iff.mp H
 obtain ⟨⟨t434, t437, t438, t441, t442⟩, A30, H⟩ := H
 replace H : ((spec_l01Next.f t430 t441 t442 (wrap64 (t437 + 1))).bind fun bt443 => ((spec_l01Next.f t430 bt443.2.1 bt443.2.2 12).bind fun bt446 => ((spec_l01Next.f t430 bt446.2.1 bt446.2.2 (wrap64 ((t434.length : Int) + (wrap64 (Int.tdiv bt446.1 11))))).bind fun bt449 => ((spec_l01Next.f t430 bt449.2.1 bt449.2.2 6).bind fun bt452 => ((spec_l01Next.f t430 bt452.2.1 bt452.2.2 24).bind fun bt455 => (some (t434, t437, t438, bt443.1, bt449.1, wrap64 (bt452.1 - (wrap64 (Int.tdiv bt455.1 23)))))))))) = some (r1, r2, r3, r4, r5, r6) := H
 have A3 := Aside0.mk A30
 clear A30
 replace H := Option.bind_eq_some_iff.mp H
 obtain ⟨⟨t443, t444, t445⟩, A40, H⟩ := H
 replace H : ((spec_l01Next.f t430 t444 t445 12).bind fun bt446 => ((spec_l01Next.f t430 bt446.2.1 bt446.2.2 (wrap64 ((t434.length : Int) + (wrap64 (Int.tdiv bt446.1 11))))).bind fun bt449 => ((spec_l01Next.f t430 bt449.2.1 bt449.2.2 6).bind fun bt452 => ((spec_l01Next.f t430 bt452.2.1 bt452.2.2 24).bind fun bt455 => (some (t434, t437, t438, t443, bt449.1, wrap64 (bt452.1 - (wrap64 (Int.tdiv bt455.1 23))))))))) = some (r1, r2, r3, r4, r5, r6) := H
 have A4 := Aside0.mk A40
 clear A40
 replace H := Option.bind_eq_some_iff.mp H
 obtain ⟨⟨t446, t447, t448⟩, A50, H⟩ := H
 replace H : ((spec_l01Next.f t430 t447 t448 (wrap64 ((t434.length : Int) + (wrap64 (Int.tdiv t446 11))))).bind fun bt449 => ((spec_l01Next.f t430 bt449.2.1 bt449.2.2 6).bind fun bt452 => ((spec_l01Next.f t430 bt452.2.1 bt452.2.2 24).bind fun bt455 => (some (t434, t437, t438, t443, bt449.1, wrap64 (bt452.1 - (wrap64 (Int.tdiv bt455.1 23)))))))) = some (r1, r2, r3, r4, r5, r6) := H
 have A5 := Aside0.mk A50
 clear A50
 replace H := Option.bind_eq_some_iff.mp H
 obtain ⟨⟨t449, t450, t451⟩, A60, H⟩ := H
 replace H : ((spec_l01Next.f t430 t450 t451 6).bind fun bt452 => ((spec_l01Next.f t430 bt452.2.1 bt452.2.2 24).bind fun bt455 => (some (t434, t437, t438, t443, t449, wrap64 (bt452.1 - (wrap64 (Int.tdiv bt455.1 23))))))) = some (r1, r2, r3, r4, r5, r6) := H
 have A6 := Aside0.mk A60
 clear A60
 replace H := Option.bind_eq_some_iff.mp H
 obtain ⟨⟨t452, t453, t454⟩, A70, H⟩ := H
 replace H : ((spec_l01Next.f t430 t453 t454 24).bind fun bt455 => (some (t434, t437, t438, t443, t449, wrap64 (t452 - (wrap64 (Int.tdiv bt455.1 23)))))) = some (r1, r2, r3, r4, r5, r6) := H
 have A7 := Aside0.mk A70
 clear A70
 replace H := Option.bind_eq_some_iff.mp H
 obtain ⟨⟨t455, t456, t457⟩, A80, H⟩ := H
 replace H : (some (t434, t437, t438, t443, t449, wrap64 (t452 - (wrap64 (Int.tdiv t455 23))))) = some (r1, r2, r3, r4, r5, r6) := H
 have A8 := Aside0.mk A80
 clear A80
 simp only [Option.some.injEq, Prod.mk.injEq] at H
 obtain ⟨rfl, rfl, rfl, rfl, rfl, rfl⟩ := H
 go_enter Try.func33, Try.ntmps33
 go_wp2_with (first | ((with_reducible refine gate_callee (f := 123) rfl ?_); refine goesL_ (some 15) rfl rfl Try.func123 (by kernel_rfl) rfl #[.slice A0 l0.length c0] rfl ag_ ?_; (with_reducible refine (spec_l01From.calls k _ _ l0 t430 t431 t432 w _ ?side1 ?side2 ?side3 A2.out).mono ?_); (case side1 => exact r11_ HB.out); (case side2 => exact HR0.out); (case side3 => exact HC0.out); rintro e w9 ⟨g433, rfl, hi, hb, hb2⟩; refine ⟨_, rfl, ?_⟩; replace HB := Aside0.mk (hb); have HI433 := Aside0.mk (hi); (try clear hb); (try clear hb2); (try clear hk); (try clear hi)) | ((with_reducible refine gate_callee (f := 122) rfl ?_); refine goesL_ (some 18) rfl rfl Try.func122 (by kernel_rfl) rfl #[.pointer (some ⟨g433, 0, none⟩)] rfl ag_ ?_; (with_reducible refine (spec_l13Draw.calls k g433 t430 t431 t432 t434 t437 t438 t441 t442 w _ ?side1 ?side2 A3.out).mono ?_); (case side1 => exact r0_ HI433.out); (case side2 => exact r1_ HB.out HI433.out); rintro e w10 ⟨v435, v439, rfl, ho0, ho1, hi, hb, hk⟩; refine ⟨_, rfl, ?_⟩; have HO436 := Aside0.mk (Kd.R_lower ho0 (below_size (r1_ HB.out HI433.out))); have HO440 := Aside0.mk (Kd.R_lower ho1 (below_size (r1_ HB.out HI433.out))); replace HB := Aside0.mk (hb); replace HI433 := Aside0.mk (hi); (try clear hb); (try clear hb2); (try clear hk); (try clear hi); (try clear ho0); (try clear ho1)) | ((with_reducible refine gate_callee (f := 129) rfl ?_); refine goesL_ (some 25) rfl rfl Try.func129 (by kernel_rfl) rfl #[.pointer (some ⟨g433, 0, none⟩), .int .i64 (wrap64 (t437 + 1))] rfl ag_ ?_; (with_reducible refine (spec_l01Next.calls g433 t430 t441 t442 (wrap64 (t437 + 1)) t443 t444 t445 w _ ?side1 ?side2 A4.out).mono ?_); (case side1 => exact r0_ HI433.out); (case side2 => exact r1_ HB.out HI433.out); rintro e w11 ⟨rfl, hi, hb, hk⟩; refine ⟨_, rfl, ?_⟩; replace HO436 := Aside0.mk (Kd.R_mono (Kd.R_keep (IsS215.apart (show IsS215 w _ g433 t430 t441 t442 from r0_ HI433.out) (rk_ HO436.out) (by decide)) hk (fun _ h => h.2)) (fun _ h => h.1)); replace HO440 := Aside0.mk (Kd.R_mono (Kd.R_keep (IsS215.apart (show IsS215 w _ g433 t430 t441 t442 from r0_ HI433.out) (rk_ HO440.out) (by decide)) hk (fun _ h => h.2)) (fun _ h => h.1)); replace HB := Aside0.mk (hb); replace HI433 := Aside0.mk (hi); (try clear hb); (try clear hb2); (try clear hk); (try clear hi); obtain ⟨Ao12, co12, eo12⟩ := Kd.R_slice HO436.out; subst eo12) | ((with_reducible refine gate_callee (f := 129) rfl ?_); refine goesL_ (some 30) rfl rfl Try.func129 (by kernel_rfl) rfl #[.pointer (some ⟨g433, 0, none⟩), .int .i64 12] rfl ag_ ?_; (with_reducible refine (spec_l01Next.calls g433 t430 t444 t445 12 t446 t447 t448 w _ ?side1 ?side2 A5.out).mono ?_); (case side1 => exact r0_ HI433.out); (case side2 => exact r1_ HB.out HI433.out); rintro e w13 ⟨rfl, hi, hb, hk⟩; refine ⟨_, rfl, ?_⟩; replace HO436 := Aside0.mk (Kd.R_mono (Kd.R_keep (IsS215.apart (show IsS215 w _ g433 t430 t444 t445 from r0_ HI433.out) (rk_ HO436.out) (by decide)) hk (fun _ h => h.2)) (fun _ h => h.1)); replace HO440 := Aside0.mk (Kd.R_mono (Kd.R_keep (IsS215.apart (show IsS215 w _ g433 t430 t444 t445 from r0_ HI433.out) (rk_ HO440.out) (by decide)) hk (fun _ h => h.2)) (fun _ h => h.1)); replace HB := Aside0.mk (hb); replace HI433 := Aside0.mk (hi); (try clear hb); (try clear hb2); (try clear hk); (try clear hi)) | ((with_reducible refine gate_callee (f := 129) rfl ?_); refine goesL_ (some 33) rfl rfl Try.func129 (by kernel_rfl) rfl #[.pointer (some ⟨g433, 0, none⟩), .int .i64 (wrap64 ((t434.length : Int) + (wrap64 (Int.tdiv t446 11))))] rfl ag_ ?_; (with_reducible refine (spec_l01Next.calls g433 t430 t447 t448 (wrap64 ((t434.length : Int) + (wrap64 (Int.tdiv t446 11)))) t449 t450 t451 w _ ?side1 ?side2 A6.out).mono ?_); (case side1 => exact r0_ HI433.out); (case side2 => exact r1_ HB.out HI433.out); rintro e w14 ⟨rfl, hi, hb, hk⟩; refine ⟨_, rfl, ?_⟩; replace HO436 := Aside0.mk (Kd.R_mono (Kd.R_keep (IsS215.apart (show IsS215 w _ g433 t430 t447 t448 from r0_ HI433.out) (rk_ HO436.out) (by decide)) hk (fun _ h => h.2)) (fun _ h => h.1)); replace HO440 := Aside0.mk (Kd.R_mono (Kd.R_keep (IsS215.apart (show IsS215 w _ g433 t430 t447 t448 from r0_ HI433.out) (rk_ HO440.out) (by decide)) hk (fun _ h => h.2)) (fun _ h => h.1)); replace HB := Aside0.mk (hb); replace HI433 := Aside0.mk (hi); (try clear hb); (try clear hb2); (try clear hk); (try clear hi)) | ((with_reducible refine gate_callee (f := 129) rfl ?_); refine goesL_ (some 40) rfl rfl Try.func129 (by kernel_rfl) rfl #[.pointer (some ⟨g433, 0, none⟩), .int .i64 6] rfl ag_ ?_; (with_reducible refine (spec_l01Next.calls g433 t430 t450 t451 6 t452 t453 t454 w _ ?side1 ?side2 A7.out).mono ?_); (case side1 => exact r0_ HI433.out); (case side2 => exact r1_ HB.out HI433.out); rintro e w15 ⟨rfl, hi, hb, hk⟩; refine ⟨_, rfl, ?_⟩; replace HO436 := Aside0.mk (Kd.R_mono (Kd.R_keep (IsS215.apart (show IsS215 w _ g433 t430 t450 t451 from r0_ HI433.out) (rk_ HO436.out) (by decide)) hk (fun _ h => h.2)) (fun _ h => h.1)); replace HO440 := Aside0.mk (Kd.R_mono (Kd.R_keep (IsS215.apart (show IsS215 w _ g433 t430 t450 t451 from r0_ HI433.out) (rk_ HO440.out) (by decide)) hk (fun _ h => h.2)) (fun _ h => h.1)); replace HB := Aside0.mk (hb); replace HI433 := Aside0.mk (hi); (try clear hb); (try clear hb2); (try clear hk); (try clear hi)) | ((with_reducible refine gate_callee (f := 129) rfl ?_); refine goesL_ (some 42) rfl rfl Try.func129 (by kernel_rfl) rfl #[.pointer (some ⟨g433, 0, none⟩), .int .i64 24] rfl ag_ ?_; (with_reducible refine (spec_l01Next.calls g433 t430 t453 t454 24 t455 t456 t457 w _ ?side1 ?side2 A8.out).mono ?_); (case side1 => exact r0_ HI433.out); (case side2 => exact r1_ HB.out HI433.out); rintro e w16 ⟨rfl, hi, hb, hk⟩; refine ⟨_, rfl, ?_⟩; replace HO436 := Aside0.mk (Kd.R_mono (Kd.R_keep (IsS215.apart (show IsS215 w _ g433 t430 t453 t454 from r0_ HI433.out) (rk_ HO436.out) (by decide)) hk (fun _ h => h.2)) (fun _ h => h.1)); replace HO440 := Aside0.mk (Kd.R_mono (Kd.R_keep (IsS215.apart (show IsS215 w _ g433 t430 t453 t454 from r0_ HI433.out) (rk_ HO440.out) (by decide)) hk (fun _ h => h.2)) (fun _ h => h.1)); replace HB := Aside0.mk (hb); replace HI433 := Aside0.mk (hi); (try clear hb); (try clear hb2); (try clear hk); (try clear hi)))
 refine bodyPost_ret (results_list (rs := [.tmp 2, .tmp 3, .tmp 4, .tmp 5, .tmp 6, .tmp 7]) rfl (by simp) (.tmp (.tmp (.tmp (.tmp (.tmp (.tmp .nil))))))) rfl ?_
 exact ⟨_, _, by first | rfl | (simp [errW_none, errW_some] <;> rfl) | (simp [*, errW_none, errW_some] <;> rfl), rk_ HO436.out, rk_ HO440.out, r1_ HB.out HI433.out⟩
def impl_MoveWire.j0 : Nat → List (S160) → Int → Int → Int → Bool → Option ((List (S160)) × Int)
 | 0, _, _, _, _, _ => none
 | k + 1, x2, x3, x4, x5, x33 => if x33 = true then (some (([] : List (S160)), 2)) else ((impl_wireOf.f k x2 x3).bind fun t461 => (if t461 < 0 then (some (([] : List (S160)), 4)) else ((impl_cueAt.f k x2 x4 x5).bind fun t462 => (if t462 ≥ 0 then (if t462 = x3 then ((some (([] : List (S160)) : List (S160))).bind fun y463 => (if y463.length + x2.length < 5864062014805 then ((some (y463 ++ x2 : List (S160))).bind fun y466 => (if 0 ≤ t461 then (if t461 < (y466.length : Int) then ((some (y466.set (t461 : Int).toNat (⟨(rd_T160 y466 t461).f0, x4, (rd_T160 y466 t461).f2⟩ : S160) : List (S160))).bind fun y469 => (some ((y469.set (t461 : Int).toNat (⟨(rd_T160 y469 t461).f0, (rd_T160 y469 t461).f1, x5⟩ : S160)), 0))) else (none)) else (none))) else (none))) else (some (([] : List (S160)), 5))) else ((some (([] : List (S160)) : List (S160))).bind fun y471 => (if y471.length + x2.length < 5864062014805 then ((some (y471 ++ x2 : List (S160))).bind fun y474 => (if 0 ≤ t461 then (if t461 < (y474.length : Int) then ((some (y474.set (t461 : Int).toNat (⟨(rd_T160 y474 t461).f0, x4, (rd_T160 y474 t461).f2⟩ : S160) : List (S160))).bind fun y477 => (some ((y477.set (t461 : Int).toNat (⟨(rd_T160 y477 t461).f0, (rd_T160 y477 t461).f1, x5⟩ : S160)), 0))) else (none)) else (none))) else (none)))))))
def impl_MoveWire.f (k : Nat) (l0 : List (S200)) (a1 : Int) (l2 : List (S160)) (a3 : Int) (a4 : Int) (a5 : Int) : Option ((List (S160)) × Int) := (impl_AreWires.f k l0 a1 l2).bind fun t458 => (if t458 = true then ((impl_within.f a3 0 (wrap64 (a1 - 1))).bind fun t459 => (if t459 = true then ((impl_isPin.f l0 a4 a5).bind fun t460 => (impl_MoveWire.j0 k l2 a3 a4 a5 (!t460))) else (impl_MoveWire.j0 k l2 a3 a4 a5 true))) else (some (([] : List (S160)), 1)))
set_option maxHeartbeats 8000000 in
set_option maxRecDepth 100000 in
theorem impl_MoveWire.calls (k : Nat) (A0 : Option Addr) (c0 : Nat) (l0 : List (S200)) (a1 : Int) (A2 : Option Addr) (c2 : Nat) (l2 : List (S160)) (a3 : Int) (a4 : Int) (a5 : Int) (r1 : List (S160)) (r2 : Int) (w : World) (hr0 : Kd.C k200 w A0 l0.length l0) (hc0 : l0.length ≤ c0) (hr2 : Kd.C k160 w A2 l2.length l2) (hc2 : l2.length ≤ c2) (h : impl_MoveWire.f k l0 a1 l2 a3 a4 a5 = some (r1, r2)) :
  Calls Try.prog 34 #[.slice A0 l0.length c0, .int .i64 a1, .slice A2 l2.length c2, .int .i64 a3, .int .i64 a4, .int .i64 a5] w fun e w' => ∃ v0_ : Value, e = .returned (.tuple #[v0_, .int .i64 r2]) ∧ Kd.R k160 160 w' w.heap.size (fun _ => True) v0_ r1 ∧ Below w.heap.size w w' := by
 have HR0 := Aside0.mk hr0
 have HC0 := Aside0.mk hc0
 clear hr0 hc0
 have HR2 := Aside0.mk hr2
 have HC2 := Aside0.mk hc2
 clear hr2 hc2
 have HB := Aside0.mk (Below.refl w.heap.size w)
 have H : ((impl_AreWires.f k l0 a1 l2).bind fun t458 => (if t458 = true then ((impl_within.f a3 0 (wrap64 (a1 - 1))).bind fun t459 => (if t459 = true then ((impl_isPin.f l0 a4 a5).bind fun t460 => (impl_MoveWire.j0 k l2 a3 a4 a5 (!t460))) else (impl_MoveWire.j0 k l2 a3 a4 a5 true))) else (some (([] : List (S160)), 1)))) = some (r1, r2) := h
 clear h
 replace H := Option.bind_eq_some_iff.mp H
 obtain ⟨t458, A70, H⟩ := H
 replace H : (if t458 = true then ((impl_within.f a3 0 (wrap64 (a1 - 1))).bind fun t459 => (if t459 = true then ((impl_isPin.f l0 a4 a5).bind fun t460 => (impl_MoveWire.j0 k l2 a3 a4 a5 (!t460))) else (impl_MoveWire.j0 k l2 a3 a4 a5 true))) else (some (([] : List (S160)), 1))) = some (r1, r2) := H
 have A7 := Aside0.mk A70
 clear A70
 by_cases c8 : t458 = true
 ·subst c8
  replace H : ((impl_within.f a3 0 (wrap64 (a1 - 1))).bind fun t459 => (if t459 = true then ((impl_isPin.f l0 a4 a5).bind fun t460 => (impl_MoveWire.j0 k l2 a3 a4 a5 (!t460))) else (impl_MoveWire.j0 k l2 a3 a4 a5 true))) = some (r1, r2) := by rw [if_pos rfl] at H; exact H
  have HC9 := Aside0.mk H
  clear H
  go_enter Try.func34, Try.ntmps34
  go_upto_region 3 with (first | ((with_reducible refine gate_callee (f := 44) rfl ?_); refine goesL_ (some 20) rfl rfl Try.func44 (by kernel_rfl) rfl #[.slice A0 l0.length c0, .int .i64 a1, .slice A2 l2.length c2] rfl ag_ ?_; (with_reducible refine (impl_AreWires.calls k _ _ l0 a1 _ _ l2 true _ ?side1 ?side2 ?side3 ?side4 A7.out).mono ?_); (case side1 => exact r9_ HR0.out); (case side2 => exact HC0.out); (case side3 => exact r9_ HR2.out); (case side4 => exact HC2.out); rintro e w10 ⟨rfl, hb⟩; refine ⟨_, rfl, ?_⟩; replace HB := Aside0.mk (below_step (bl_ HB.out) hb); (try clear hb); (try clear hb2); (try clear hk); (try clear hi)))
  (try simp only [Act.put, List.setIfInBounds_toArray, List.set_cons_zero, List.set_cons_succ])
  go_cut [33] (fun v33 wc => ∃ (kq : Nat) (x33_8 : Bool), v33 = .bool x33_8 ∧ Aside0 (impl_MoveWire.j0 kq l2 a3 a4 a5 x33_8 = some (r1, r2)) ∧ Aside0 (kq ≤ k) ∧ Aside0 (Below w.heap.size w wc))
  case first =>
   have H := HC9.out
   clear HC9
   replace H := Option.bind_eq_some_iff.mp H
   obtain ⟨t459, A110, H⟩ := H
   replace H : (if t459 = true then ((impl_isPin.f l0 a4 a5).bind fun t460 => (impl_MoveWire.j0 k l2 a3 a4 a5 (!t460))) else (impl_MoveWire.j0 k l2 a3 a4 a5 true)) = some (r1, r2) := H
   have A11 := Aside0.mk A110
   clear A110
   by_cases c12 : t459 = true
   ·subst c12
    replace H : ((impl_isPin.f l0 a4 a5).bind fun t460 => (impl_MoveWire.j0 k l2 a3 a4 a5 (!t460))) = some (r1, r2) := by rw [if_pos rfl] at H; exact H
    replace H := Option.bind_eq_some_iff.mp H
    obtain ⟨t460, A130, H⟩ := H
    replace H : (impl_MoveWire.j0 k l2 a3 a4 a5 (!t460)) = some (r1, r2) := H
    have A13 := Aside0.mk A130
    clear A130
    have H' := Aside0.mk H
    clear H
    go_wp2_with (first | ((with_reducible refine gate_callee (f := 130) rfl ?_); refine goesL_ (some 25) rfl rfl Try.func130 (by kernel_rfl) rfl #[.int .i64 a3, .int .i64 0, .int .i64 (wrap64 (a1 - 1))] rfl ag_ ?_; (with_reducible refine (impl_within.calls a3 0 (wrap64 (a1 - 1)) true _ A11.out).mono ?_); rintro e w' ⟨rfl, ⟨nd, rfl⟩⟩; refine ⟨_, rfl, ?_⟩) | (go_at_call 131; (with_reducible refine (impl_isPin.calls _ _ l0 a4 a5 t460 _ ?side1 ?side2 A13.out).mono ?_); (case side1 => exact r13_ HR0.out HB.out); (case side2 => exact HC0.out); rintro e w' ⟨rfl, ⟨nd, rfl⟩⟩))
    go_meet
    case rel => exact ⟨_, (!t460), (by first | rfl | (simp; done) | (simp [*]; done)), H', ⟨by first | omega | exact Nat.le_refl _⟩, ⟨bl_ HB.out⟩⟩
   ·replace c12 := Bool.eq_false_iff.mpr c12
    subst c12
    replace H : (impl_MoveWire.j0 k l2 a3 a4 a5 true) = some (r1, r2) := by rw [if_neg (show ¬ (false = true) by decide)] at H; exact H
    have H' := Aside0.mk H
    clear H
    go_wp2_with (first | ((with_reducible refine gate_callee (f := 130) rfl ?_); refine goesL_ (some 25) rfl rfl Try.func130 (by kernel_rfl) rfl #[.int .i64 a3, .int .i64 0, .int .i64 (wrap64 (a1 - 1))] rfl ag_ ?_; (with_reducible refine (impl_within.calls a3 0 (wrap64 (a1 - 1)) false _ A11.out).mono ?_); rintro e w' ⟨rfl, ⟨nd, rfl⟩⟩; refine ⟨_, rfl, ?_⟩))
    go_meet
    case rel => exact ⟨_, (true), (by first | rfl | (simp; done) | (simp [*]; done)), H', ⟨by first | omega | exact Nat.le_refl _⟩, ⟨bl_ HB.out⟩⟩
  case rest =>
   clear HC9
   try clear c1
   try clear c2
   try clear p2
   try clear c3
   try clear c4
   try clear p6
   try clear c8
   try clear c12
   try clear c13
   obtain ⟨kq, x33_8, rfl, HA, HJ8, HB⟩ := hcut
   cases kq with
   | zero => exact absurd HA.out (by simp [impl_MoveWire.j0])
   | succ kj8 =>
    have H := HA.out
    clear HA
    simp only [impl_MoveWire.j0] at H
    by_cases c14 : x33_8 = true
    ·subst c14
     replace H : (some (([] : List (S160)), 2)) = some (r1, r2) := by rw [if_pos rfl] at H; exact H
     simp only [Option.some.injEq, Prod.mk.injEq] at H
     obtain ⟨rfl, rfl⟩ := H
     go_wp2
     go_ret2
     exact ⟨_, by first | rfl | (simp [errW_none, errW_some] <;> rfl) | (simp [*, errW_none, errW_some] <;> rfl), by first | exact Kd.R_nil _ _ _ _ _ | exact Kd.N_nil _ _ _ _ _ | exact Kd.V_nil _ _ _ _ _ | exact Kd.Q_nil _ _ _ _ _ | exact Kd.S_nil _ _ _ _ _, bl_ HB.out⟩
    ·replace c14 := Bool.eq_false_iff.mpr c14
     subst c14
     replace H : ((impl_wireOf.f kj8 l2 a3).bind fun t461 => (if t461 < 0 then (some (([] : List (S160)), 4)) else ((impl_cueAt.f kj8 l2 a4 a5).bind fun t462 => (if t462 ≥ 0 then (if t462 = a3 then ((some (([] : List (S160)) : List (S160))).bind fun y463 => (if y463.length + l2.length < 5864062014805 then ((some (y463 ++ l2 : List (S160))).bind fun y466 => (if 0 ≤ t461 then (if t461 < (y466.length : Int) then ((some (y466.set (t461 : Int).toNat (⟨(rd_T160 y466 t461).f0, a4, (rd_T160 y466 t461).f2⟩ : S160) : List (S160))).bind fun y469 => (some ((y469.set (t461 : Int).toNat (⟨(rd_T160 y469 t461).f0, (rd_T160 y469 t461).f1, a5⟩ : S160)), 0))) else (none)) else (none))) else (none))) else (some (([] : List (S160)), 5))) else ((some (([] : List (S160)) : List (S160))).bind fun y471 => (if y471.length + l2.length < 5864062014805 then ((some (y471 ++ l2 : List (S160))).bind fun y474 => (if 0 ≤ t461 then (if t461 < (y474.length : Int) then ((some (y474.set (t461 : Int).toNat (⟨(rd_T160 y474 t461).f0, a4, (rd_T160 y474 t461).f2⟩ : S160) : List (S160))).bind fun y477 => (some ((y477.set (t461 : Int).toNat (⟨(rd_T160 y477 t461).f0, (rd_T160 y477 t461).f1, a5⟩ : S160)), 0))) else (none)) else (none))) else (none))))))) = some (r1, r2) := by rw [if_neg (show ¬ (false = true) by decide)] at H; exact H
     replace H := Option.bind_eq_some_iff.mp H
     obtain ⟨t461, A150, H⟩ := H
     replace H : (if t461 < 0 then (some (([] : List (S160)), 4)) else ((impl_cueAt.f kj8 l2 a4 a5).bind fun t462 => (if t462 ≥ 0 then (if t462 = a3 then ((some (([] : List (S160)) : List (S160))).bind fun y463 => (if y463.length + l2.length < 5864062014805 then ((some (y463 ++ l2 : List (S160))).bind fun y466 => (if 0 ≤ t461 then (if t461 < (y466.length : Int) then ((some (y466.set (t461 : Int).toNat (⟨(rd_T160 y466 t461).f0, a4, (rd_T160 y466 t461).f2⟩ : S160) : List (S160))).bind fun y469 => (some ((y469.set (t461 : Int).toNat (⟨(rd_T160 y469 t461).f0, (rd_T160 y469 t461).f1, a5⟩ : S160)), 0))) else (none)) else (none))) else (none))) else (some (([] : List (S160)), 5))) else ((some (([] : List (S160)) : List (S160))).bind fun y471 => (if y471.length + l2.length < 5864062014805 then ((some (y471 ++ l2 : List (S160))).bind fun y474 => (if 0 ≤ t461 then (if t461 < (y474.length : Int) then ((some (y474.set (t461 : Int).toNat (⟨(rd_T160 y474 t461).f0, a4, (rd_T160 y474 t461).f2⟩ : S160) : List (S160))).bind fun y477 => (some ((y477.set (t461 : Int).toNat (⟨(rd_T160 y477 t461).f0, (rd_T160 y477 t461).f1, a5⟩ : S160)), 0))) else (none)) else (none))) else (none)))))) = some (r1, r2) := H
     have A15 := Aside0.mk A150
     clear A150
     by_cases c16 : t461 < 0
     ·rw [if_pos c16] at H
      have c16b0 : decide (t461 < 0) = true := decide_eq_true c16
      clear c16
      simp only [Option.some.injEq, Prod.mk.injEq] at H
      obtain ⟨rfl, rfl⟩ := H
      go_wp2_with (first | ((with_reducible refine gate_callee (f := 132) rfl ?_); refine goesL_ (some 36) rfl rfl Try.func132 (by kernel_rfl) rfl #[.slice A2 l2.length c2, .int .i64 a3] rfl ag_ ?_; (with_reducible refine (impl_wireOf.calls kj8 _ _ l2 a3 t461 _ ?side1 ?side2 A15.out).mono ?_); (case side1 => exact r5_ HR2.out HB.out); (case side2 => exact HC2.out); rintro e w17 ⟨rfl, hb⟩; refine ⟨_, rfl, ?_⟩; replace HB := Aside0.mk (below_step (bl_ HB.out) hb); (try clear hb); (try clear hb2); (try clear hk); (try clear hi)))
      go_ret2
      exact ⟨_, by first | rfl | (simp [errW_none, errW_some] <;> rfl) | (simp [*, errW_none, errW_some] <;> rfl), by first | exact Kd.R_nil _ _ _ _ _ | exact Kd.N_nil _ _ _ _ _ | exact Kd.V_nil _ _ _ _ _ | exact Kd.Q_nil _ _ _ _ _ | exact Kd.S_nil _ _ _ _ _, bl_ HB.out⟩
     ·rw [if_neg c16] at H
      have c16b0 : decide (t461 < 0) = false := decide_eq_false c16
      clear c16
      replace H := Option.bind_eq_some_iff.mp H
      obtain ⟨t462, A180, H⟩ := H
      replace H : (if t462 ≥ 0 then (if t462 = a3 then ((some (([] : List (S160)) : List (S160))).bind fun y463 => (if y463.length + l2.length < 5864062014805 then ((some (y463 ++ l2 : List (S160))).bind fun y466 => (if 0 ≤ t461 then (if t461 < (y466.length : Int) then ((some (y466.set (t461 : Int).toNat (⟨(rd_T160 y466 t461).f0, a4, (rd_T160 y466 t461).f2⟩ : S160) : List (S160))).bind fun y469 => (some ((y469.set (t461 : Int).toNat (⟨(rd_T160 y469 t461).f0, (rd_T160 y469 t461).f1, a5⟩ : S160)), 0))) else (none)) else (none))) else (none))) else (some (([] : List (S160)), 5))) else ((some (([] : List (S160)) : List (S160))).bind fun y471 => (if y471.length + l2.length < 5864062014805 then ((some (y471 ++ l2 : List (S160))).bind fun y474 => (if 0 ≤ t461 then (if t461 < (y474.length : Int) then ((some (y474.set (t461 : Int).toNat (⟨(rd_T160 y474 t461).f0, a4, (rd_T160 y474 t461).f2⟩ : S160) : List (S160))).bind fun y477 => (some ((y477.set (t461 : Int).toNat (⟨(rd_T160 y477 t461).f0, (rd_T160 y477 t461).f1, a5⟩ : S160)), 0))) else (none)) else (none))) else (none)))) = some (r1, r2) := H
      have A18 := Aside0.mk A180
      clear A180
      by_cases c19 : t462 ≥ 0
      ·rw [if_pos c19] at H
       have c19b0 : decide (0 ≤ t462) = true := decide_eq_true c19
       clear c19
       by_cases c20 : t462 = a3
       ·rw [if_pos c20] at H
        have c20b0 : (t462 == a3) = true := beq_iff_eq.mpr c20
        have c20b1 : (t462 != a3) = false := bne_eq_false_iff_eq.mpr c20
        clear c20
        obtain ⟨y463, hy463⟩ : ∃ y_ : List (S160), y_ = (([] : List (S160))) := ⟨_, rfl⟩
        replace H : (if y463.length + l2.length < 5864062014805 then ((some (y463 ++ l2 : List (S160))).bind fun y466 => (if 0 ≤ t461 then (if t461 < (y466.length : Int) then ((some (y466.set (t461 : Int).toNat (⟨(rd_T160 y466 t461).f0, a4, (rd_T160 y466 t461).f2⟩ : S160) : List (S160))).bind fun y469 => (some ((y469.set (t461 : Int).toNat (⟨(rd_T160 y469 t461).f0, (rd_T160 y469 t461).f1, a5⟩ : S160)), 0))) else (none)) else (none))) else (none)) = some (r1, r2) := by first | (rw [hy463]; with_reducible exact H) | (have H2_ := (Option.bind_some _ _).symm.trans H; rw [hy463]; with_reducible exact H2_) | (have H2_ := (Option.bind_some _ _).symm.trans H; with_reducible exact H2_) | with_reducible exact H | (rw [hy463]; exact H) | exact H
        have Ny463 := Aside0.mk hy463
        clear hy463
        by_cases c21 : y463.length + l2.length < 5864062014805
        case neg =>
         rw [if_neg c21] at H
         exact absurd H (by simp)
        rw [if_pos c21] at H
        have LMc21 := Aside0.mk c21
        clear c21
        obtain ⟨y466, hy466⟩ : ∃ y_ : List (S160), y_ = (y463 ++ l2) := ⟨_, rfl⟩
        replace H : (if 0 ≤ t461 then (if t461 < (y466.length : Int) then ((some (y466.set (t461 : Int).toNat (⟨(rd_T160 y466 t461).f0, a4, (rd_T160 y466 t461).f2⟩ : S160) : List (S160))).bind fun y469 => (some ((y469.set (t461 : Int).toNat (⟨(rd_T160 y469 t461).f0, (rd_T160 y469 t461).f1, a5⟩ : S160)), 0))) else (none)) else (none)) = some (r1, r2) := by first | (rw [hy466]; with_reducible exact H) | (have H2_ := (Option.bind_some _ _).symm.trans H; rw [hy466]; with_reducible exact H2_) | (have H2_ := (Option.bind_some _ _).symm.trans H; with_reducible exact H2_) | with_reducible exact H | (rw [hy466]; exact H) | exact H
        have Ny466 := Aside0.mk hy466
        clear hy466
        by_cases c22 : 0 ≤ t461
        case neg =>
         rw [if_neg c22] at H
         exact absurd H (by simp)
        rw [if_pos c22] at H
        have c22b0 : decide (0 ≤ t461) = true := decide_eq_true c22
        clear c22
        by_cases c23 : t461 < (y466.length : Int)
        case neg =>
         rw [if_neg c23] at H
         exact absurd H (by simp)
        rw [if_pos c23] at H
        have c23b0 : decide (t461 < (y466.length : Int)) = true := decide_eq_true c23
        clear c23
        obtain ⟨y469, hy469⟩ : ∃ y_ : List (S160), y_ = (y466.set (t461 : Int).toNat (⟨(rd_T160 y466 t461).f0, a4, (rd_T160 y466 t461).f2⟩ : S160)) := ⟨_, rfl⟩
        replace H : (some ((y469.set (t461 : Int).toNat (⟨(rd_T160 y469 t461).f0, (rd_T160 y469 t461).f1, a5⟩ : S160)), 0)) = some (r1, r2) := by first | (rw [hy469]; with_reducible exact H) | (have H2_ := (Option.bind_some _ _).symm.trans H; rw [hy469]; with_reducible exact H2_) | (have H2_ := (Option.bind_some _ _).symm.trans H; with_reducible exact H2_) | with_reducible exact H | (rw [hy469]; exact H) | exact H
        have Ny469 := Aside0.mk hy469
        clear hy469
        obtain ⟨y470, hy470⟩ : ∃ y_ : List (S160), y_ = (y469.set (t461 : Int).toNat (⟨(rd_T160 y469 t461).f0, (rd_T160 y469 t461).f1, a5⟩ : S160)) := ⟨_, rfl⟩
        replace H : (some (y470, 0)) = some (r1, r2) := by first | (rw [hy470]; with_reducible exact H) | (have H2_ := (Option.bind_some _ _).symm.trans H; rw [hy470]; with_reducible exact H2_) | (have H2_ := (Option.bind_some _ _).symm.trans H; with_reducible exact H2_) | with_reducible exact H | (rw [hy470]; exact H) | exact H
        have Ny470 := Aside0.mk hy470
        clear hy470
        simp only [Option.some.injEq, Prod.mk.injEq] at H
        obtain ⟨rfl, rfl⟩ := H
        go_wp2_with (first | ((with_reducible refine gate_callee (f := 132) rfl ?_); refine goesL_ (some 36) rfl rfl Try.func132 (by kernel_rfl) rfl #[.slice A2 l2.length c2, .int .i64 a3] rfl ag_ ?_; (with_reducible refine (impl_wireOf.calls kj8 _ _ l2 a3 t461 _ ?side1 ?side2 A15.out).mono ?_); (case side1 => exact r5_ HR2.out HB.out); (case side2 => exact HC2.out); rintro e w26 ⟨rfl, hb⟩; refine ⟨_, rfl, ?_⟩; replace HB := Aside0.mk (below_step (bl_ HB.out) hb); (try clear hb); (try clear hb2); (try clear hk); (try clear hi)) | ((with_reducible refine gate_callee (f := 133) rfl ?_); refine goesL_ (some 42) rfl rfl Try.func133 (by kernel_rfl) rfl #[.slice A2 l2.length c2, .int .i64 a4, .int .i64 a5] rfl ag_ ?_; (with_reducible refine (impl_cueAt.calls kj8 _ _ l2 a4 a5 t462 _ ?side1 ?side2 A18.out).mono ?_); (case side1 => exact r5_ HR2.out HB.out); (case side2 => exact HC2.out); rintro e w27 ⟨rfl, hb⟩; refine ⟨_, rfl, ?_⟩; replace HB := Aside0.mk (below_step (bl_ HB.out) hb); (try clear hb); (try clear hb2); (try clear hk); (try clear hi)) | ((with_reducible refine gate_dst (N := 50) rfl ?_); refine Kd.R_lit k160 _ 160 ?hg (N := 50) ?hd (xs := ([] : List (S160))) (inner := []) (ok := fun _ => True) (okp := fun _ => True) ?hr ?hp (fun _ hk => hk) trivial (Below.refl _ _) (Nat.le_refl _) (by simp) ?_; (case hd => rfl); (case hg => rfl); (case hr => first | (go_simp; done) | (go_simp; rfl)); (case hp => exact (Reps.none _ _)); intro v464 w28 ho29 hb hg_ hnew_; clear hg_ hnew_; (first | rw [← Ny463.out] at ho29 | (simp only [Int.reduceToNat] at ho29; rw [← Ny463.out] at ho29)); have HO465 := Aside0.mk (Kd.R_lower ho29 (below_size (bl_ HB.out))); replace HB := Aside0.mk (below_step (bl_ HB.out) hb); clear hb ho29) | ((with_reducible refine gate_builtin (b := .append) (xs := #[.tmp 50, .tmp 51]) rfl ?_); at_builtin; refine Kd.R_append_rows k160 (w0 := w) w.heap.size rfl (.tmp 50) (.tmp 51) 44 160 (.agg #[(.int .i64 0), (.int .i64 0), (.int .i64 0)]) 24 rfl Try.underlying44 info160 rfl (by decide) (by omega) v464 y463 l2 _ _ _ (fun _ => True) (fun _ => False) rfl rfl ?aO ?aR (fun _ _ h => h) (fun _ h => h.elim) ?aF ?aB ?aS ?aL ?_; (case aR => exact r5_ HR2.out HB.out); (case aB => exact (bl_ HB.out)); (case aF => exact (fun _ _ => trivial)); (case aO => exact (rk_ HO465.out)); (case aS => exact (below_size (bl_ HB.out))); (case aL => have := LMc21.out; omega); intro v467 w30 ho hb hg hat; rw [← Ny466.out] at ho; have n0_ := Aside0.mk (hb); have n1_ := Aside0.mk (ho); clear HB; clear HO465; have HB := n0_; have HO468 := n1_; clear n0_ n1_; clear ho hb hg hat; have p24 : 0 ≤ (t461 : Int) := od_; have q24 : (t461 : Int) < ((y466.length : Int) : Int) := od_; obtain ⟨go24, co24, eo24, gb24, gl24, cl24, HG24⟩ := Kd.R_form HO468.out (by omega); (first | cases eo24 | (injection eo24 with ea_ en_ ec_; (first | subst ea_ | (injection ea_ with ea_; subst ea_)); subst ec_; clear en_)); have GB24 := Aside0.mk gb24; have GG24 := Aside0.mk HG24; clear gb24 gl24 HG24; obtain ⟨ce24, hcl24, hM24, hcc24, hfr24⟩ := Kd.R_elem HO468.out z160 (t461 : Int) p24 q24; obtain rfl := k160_openM hM24; have hx24_0 : w30.cell? ⟨go24, (t461 : Int).toNat * 3, none⟩ = some (.int .i64 ((rd_T160 y466 t461).f0)) := hcc24 0 _ rfl; have hx24_1 : w30.cell? ⟨go24, (t461 : Int).toNat * 3 + 1, none⟩ = some (.int .i64 ((rd_T160 y466 t461).f1)) := hcc24 1 _ rfl; have hx24_2 : w30.cell? ⟨go24, (t461 : Int).toNat * 3 + 2, none⟩ = some (.int .i64 ((rd_T160 y466 t461).f2)) := hcc24 2 _ rfl; have hf24_0 : w30.frozen? ⟨go24, (t461 : Int).toNat * 3, none⟩ = false := hfr24 0; have hf24_1 : w30.frozen? ⟨go24, (t461 : Int).toNat * 3 + 1, none⟩ = false := hfr24 1; have hf24_2 : w30.frozen? ⟨go24, (t461 : Int).toNat * 3 + 2, none⟩ = false := hfr24 2; clear hcl24 hcc24 hfr24 hM24; replace p24 := eq_true p24; replace q24 := eq_true q24; have HX31 := Aside0.mk (show Kd.R k160 160 w30 w.heap.size (fun _ => True) (.slice (some ⟨go24, 0, none⟩) y466.length co24) y466 from (rk_ HO468.out)); obtain ⟨ce31, hcl31, hM31, hcc31, hfr31⟩ := Kd.R_elem HX31.out z160 (t461 : Int) od_ (by have h_ : (t461 : Int) < ((y466.length : Int) : Int) := od_; first | exact h_ | (have e_ := (Kd.R_reads' HO468.out).1; omega) | simpa using h_); obtain rfl := k160_openM hM31; have HP31 := Kd.R_seg HX31.out (t461 : Int) od_ (by have h_ : (t461 : Int) < ((y466.length : Int) : Int) := od_; first | exact h_ | (have e_ := (Kd.R_reads' HO468.out).1; omega) | simpa using h_) (seg := [.int .i64 a4]) (j := 1) hcl31 hcc31 (show 2 ≤ 3 from by decide) (x' := (⟨(rd_T160 y466 t461).f0, a4, (rd_T160 y466 t461).f2⟩ : S160)) (k160_mkM _ _ _ (⟨(rd_T160 y466 t461).f0, a4, (rd_T160 y466 t461).f2⟩ : S160) ) (fun _ hk => hk); have hx31_1 := hcc31 1 _ rfl; (try simp only [show (k160).sz = 3 from rfl, Nat.mul_one, Nat.add_zero] at hx31_1); have hf31_1 := hfr31 1; (try simp only [show (k160).sz = 3 from rfl, Nat.mul_one, Nat.add_zero] at hf31_1); clear hcl31 hcc31 hfr31 hM31) | ((with_reducible refine gate_store (t := 2) (p := 60) rfl ?_); refine store_event (t := 2) (p := 60) (v := ?vo_w32) (w1 := (w30.setCell ⟨go24, (t461 : Int).toNat * 3 + 1, none⟩ (.int .i64 a4))) ?hg ?ho ?hn ?hr ?_; (case ho => rfl); (case hg => rfl); (case hn => rfl); (case hr => first | (go_simp; done) | (go_simp; rfl)); intro w32 hw; have hg : w30.grownBy w32 (some go24) := (by rw [hw]; exact HP31.2); have hp_ : Kd.R k160 160 w32 w.heap.size (fun _ => True) (.slice (some ⟨go24, 0, none⟩) y466.length co24) y469 := (by rw [hw, Ny469.out]; exact HP31.1); clear HP31; replace HO468 := Aside0.mk (hp_); replace HB := Aside0.mk ((by rw [hw]; exact below_set (HB.out) GB24.out : Below w.heap.size w w32)); clear hg hw hp_; have p25 : 0 ≤ (t461 : Int) := od_; have q25 : (t461 : Int) < ((y466.length : Int) : Int) := od_; obtain ⟨ce25, hcl25, hM25, hcc25, hfr25⟩ := Kd.R_elem HO468.out z160 (t461 : Int) p25 q25; obtain rfl := k160_openM hM25; have hx25_0 : w32.cell? ⟨go24, (t461 : Int).toNat * 3, none⟩ = some (.int .i64 ((rd_T160 y469 t461).f0)) := hcc25 0 _ rfl; have hx25_1 : w32.cell? ⟨go24, (t461 : Int).toNat * 3 + 1, none⟩ = some (.int .i64 ((rd_T160 y469 t461).f1)) := hcc25 1 _ rfl; have hx25_2 : w32.cell? ⟨go24, (t461 : Int).toNat * 3 + 2, none⟩ = some (.int .i64 ((rd_T160 y469 t461).f2)) := hcc25 2 _ rfl; have hf25_0 : w32.frozen? ⟨go24, (t461 : Int).toNat * 3, none⟩ = false := hfr25 0; have hf25_1 : w32.frozen? ⟨go24, (t461 : Int).toNat * 3 + 1, none⟩ = false := hfr25 1; have hf25_2 : w32.frozen? ⟨go24, (t461 : Int).toNat * 3 + 2, none⟩ = false := hfr25 2; clear hcl25 hcc25 hfr25 hM25; replace p25 := eq_true p25; replace q25 := eq_true q25; have HX33 := Aside0.mk (show Kd.R k160 160 w32 w.heap.size (fun _ => True) (.slice (some ⟨go24, 0, none⟩) y466.length co24) y469 from (rk_ HO468.out)); obtain ⟨ce33, hcl33, hM33, hcc33, hfr33⟩ := Kd.R_elem HX33.out z160 (t461 : Int) od_ (by have h_ : (t461 : Int) < ((y466.length : Int) : Int) := od_; first | exact h_ | (have e_ := (Kd.R_reads' HO468.out).1; omega) | simpa using h_); obtain rfl := k160_openM hM33; have HP33 := Kd.R_seg HX33.out (t461 : Int) od_ (by have h_ : (t461 : Int) < ((y466.length : Int) : Int) := od_; first | exact h_ | (have e_ := (Kd.R_reads' HO468.out).1; omega) | simpa using h_) (seg := [.int .i64 a5]) (j := 2) hcl33 hcc33 (show 3 ≤ 3 from by decide) (x' := (⟨(rd_T160 y469 t461).f0, (rd_T160 y469 t461).f1, a5⟩ : S160)) (k160_mkM _ _ _ (⟨(rd_T160 y469 t461).f0, (rd_T160 y469 t461).f1, a5⟩ : S160) ) (fun _ hk => hk); have hx33_2 := hcc33 2 _ rfl; (try simp only [show (k160).sz = 3 from rfl, Nat.mul_one, Nat.add_zero] at hx33_2); have hf33_2 := hfr33 2; (try simp only [show (k160).sz = 3 from rfl, Nat.mul_one, Nat.add_zero] at hf33_2); clear hcl33 hcc33 hfr33 hM33) | ((with_reducible refine gate_store (t := 2) (p := 62) rfl ?_); refine store_event (t := 2) (p := 62) (v := ?vo_w34) (w1 := (w32.setCell ⟨go24, (t461 : Int).toNat * 3 + 2, none⟩ (.int .i64 a5))) ?hg ?ho ?hn ?hr ?_; (case ho => rfl); (case hg => rfl); (case hn => rfl); (case hr => first | (go_simp; done) | (go_simp; rfl)); intro w34 hw; have hg : w32.grownBy w34 (some go24) := (by rw [hw]; exact HP33.2); have hp_ : Kd.R k160 160 w34 w.heap.size (fun _ => True) (.slice (some ⟨go24, 0, none⟩) y466.length co24) y470 := (by rw [hw, Ny470.out]; exact HP33.1); clear HP33; replace HO468 := Aside0.mk (hp_); replace HB := Aside0.mk ((by rw [hw]; exact below_set (HB.out) GB24.out : Below w.heap.size w w34)); clear hg hw hp_))
        go_ret2
        exact ⟨_, by first | rfl | (simp [errW_none, errW_some] <;> rfl) | (simp [*, errW_none, errW_some] <;> rfl), rk_ HO468.out, bl_ HB.out⟩
       ·rw [if_neg c20] at H
        have c20b0 : (t462 == a3) = false := beq_eq_false_iff_ne.mpr c20
        have c20b1 : (t462 != a3) = true := bne_iff_ne.mpr c20
        simp only [Option.some.injEq, Prod.mk.injEq] at H
        obtain ⟨rfl, rfl⟩ := H
        go_wp2_with (first | ((with_reducible refine gate_callee (f := 132) rfl ?_); refine goesL_ (some 36) rfl rfl Try.func132 (by kernel_rfl) rfl #[.slice A2 l2.length c2, .int .i64 a3] rfl ag_ ?_; (with_reducible refine (impl_wireOf.calls kj8 _ _ l2 a3 t461 _ ?side1 ?side2 A15.out).mono ?_); (case side1 => exact r5_ HR2.out HB.out); (case side2 => exact HC2.out); rintro e w35 ⟨rfl, hb⟩; refine ⟨_, rfl, ?_⟩; replace HB := Aside0.mk (below_step (bl_ HB.out) hb); (try clear hb); (try clear hb2); (try clear hk); (try clear hi)) | ((with_reducible refine gate_callee (f := 133) rfl ?_); refine goesL_ (some 42) rfl rfl Try.func133 (by kernel_rfl) rfl #[.slice A2 l2.length c2, .int .i64 a4, .int .i64 a5] rfl ag_ ?_; (with_reducible refine (impl_cueAt.calls kj8 _ _ l2 a4 a5 t462 _ ?side1 ?side2 A18.out).mono ?_); (case side1 => exact r5_ HR2.out HB.out); (case side2 => exact HC2.out); rintro e w36 ⟨rfl, hb⟩; refine ⟨_, rfl, ?_⟩; replace HB := Aside0.mk (below_step (bl_ HB.out) hb); (try clear hb); (try clear hb2); (try clear hk); (try clear hi)))
        go_ret2
        exact ⟨_, by first | rfl | (simp [errW_none, errW_some] <;> rfl) | (simp [*, errW_none, errW_some] <;> rfl), by first | exact Kd.R_nil _ _ _ _ _ | exact Kd.N_nil _ _ _ _ _ | exact Kd.V_nil _ _ _ _ _ | exact Kd.Q_nil _ _ _ _ _ | exact Kd.S_nil _ _ _ _ _, bl_ HB.out⟩
      ·rw [if_neg c19] at H
       have c19b0 : decide (0 ≤ t462) = false := decide_eq_false c19
       clear c19
       obtain ⟨y471, hy471⟩ : ∃ y_ : List (S160), y_ = (([] : List (S160))) := ⟨_, rfl⟩
       replace H : (if y471.length + l2.length < 5864062014805 then ((some (y471 ++ l2 : List (S160))).bind fun y474 => (if 0 ≤ t461 then (if t461 < (y474.length : Int) then ((some (y474.set (t461 : Int).toNat (⟨(rd_T160 y474 t461).f0, a4, (rd_T160 y474 t461).f2⟩ : S160) : List (S160))).bind fun y477 => (some ((y477.set (t461 : Int).toNat (⟨(rd_T160 y477 t461).f0, (rd_T160 y477 t461).f1, a5⟩ : S160)), 0))) else (none)) else (none))) else (none)) = some (r1, r2) := by first | (rw [hy471]; with_reducible exact H) | (have H2_ := (Option.bind_some _ _).symm.trans H; rw [hy471]; with_reducible exact H2_) | (have H2_ := (Option.bind_some _ _).symm.trans H; with_reducible exact H2_) | with_reducible exact H | (rw [hy471]; exact H) | exact H
       have Ny471 := Aside0.mk hy471
       clear hy471
       by_cases c37 : y471.length + l2.length < 5864062014805
       case neg =>
        rw [if_neg c37] at H
        exact absurd H (by simp)
       rw [if_pos c37] at H
       have LMc37 := Aside0.mk c37
       clear c37
       obtain ⟨y474, hy474⟩ : ∃ y_ : List (S160), y_ = (y471 ++ l2) := ⟨_, rfl⟩
       replace H : (if 0 ≤ t461 then (if t461 < (y474.length : Int) then ((some (y474.set (t461 : Int).toNat (⟨(rd_T160 y474 t461).f0, a4, (rd_T160 y474 t461).f2⟩ : S160) : List (S160))).bind fun y477 => (some ((y477.set (t461 : Int).toNat (⟨(rd_T160 y477 t461).f0, (rd_T160 y477 t461).f1, a5⟩ : S160)), 0))) else (none)) else (none)) = some (r1, r2) := by first | (rw [hy474]; with_reducible exact H) | (have H2_ := (Option.bind_some _ _).symm.trans H; rw [hy474]; with_reducible exact H2_) | (have H2_ := (Option.bind_some _ _).symm.trans H; with_reducible exact H2_) | with_reducible exact H | (rw [hy474]; exact H) | exact H
       have Ny474 := Aside0.mk hy474
       clear hy474
       by_cases c38 : 0 ≤ t461
       case neg =>
        rw [if_neg c38] at H
        exact absurd H (by simp)
       rw [if_pos c38] at H
       have c38b0 : decide (0 ≤ t461) = true := decide_eq_true c38
       clear c38
       by_cases c39 : t461 < (y474.length : Int)
       case neg =>
        rw [if_neg c39] at H
        exact absurd H (by simp)
       rw [if_pos c39] at H
       have c39b0 : decide (t461 < (y474.length : Int)) = true := decide_eq_true c39
       clear c39
       obtain ⟨y477, hy477⟩ : ∃ y_ : List (S160), y_ = (y474.set (t461 : Int).toNat (⟨(rd_T160 y474 t461).f0, a4, (rd_T160 y474 t461).f2⟩ : S160)) := ⟨_, rfl⟩
       replace H : (some ((y477.set (t461 : Int).toNat (⟨(rd_T160 y477 t461).f0, (rd_T160 y477 t461).f1, a5⟩ : S160)), 0)) = some (r1, r2) := by first | (rw [hy477]; with_reducible exact H) | (have H2_ := (Option.bind_some _ _).symm.trans H; rw [hy477]; with_reducible exact H2_) | (have H2_ := (Option.bind_some _ _).symm.trans H; with_reducible exact H2_) | with_reducible exact H | (rw [hy477]; exact H) | exact H
       have Ny477 := Aside0.mk hy477
       clear hy477
       obtain ⟨y478, hy478⟩ : ∃ y_ : List (S160), y_ = (y477.set (t461 : Int).toNat (⟨(rd_T160 y477 t461).f0, (rd_T160 y477 t461).f1, a5⟩ : S160)) := ⟨_, rfl⟩
       replace H : (some (y478, 0)) = some (r1, r2) := by first | (rw [hy478]; with_reducible exact H) | (have H2_ := (Option.bind_some _ _).symm.trans H; rw [hy478]; with_reducible exact H2_) | (have H2_ := (Option.bind_some _ _).symm.trans H; with_reducible exact H2_) | with_reducible exact H | (rw [hy478]; exact H) | exact H
       have Ny478 := Aside0.mk hy478
       clear hy478
       simp only [Option.some.injEq, Prod.mk.injEq] at H
       obtain ⟨rfl, rfl⟩ := H
       go_wp2_with (first | ((with_reducible refine gate_callee (f := 132) rfl ?_); refine goesL_ (some 36) rfl rfl Try.func132 (by kernel_rfl) rfl #[.slice A2 l2.length c2, .int .i64 a3] rfl ag_ ?_; (with_reducible refine (impl_wireOf.calls kj8 _ _ l2 a3 t461 _ ?side1 ?side2 A15.out).mono ?_); (case side1 => exact r5_ HR2.out HB.out); (case side2 => exact HC2.out); rintro e w42 ⟨rfl, hb⟩; refine ⟨_, rfl, ?_⟩; replace HB := Aside0.mk (below_step (bl_ HB.out) hb); (try clear hb); (try clear hb2); (try clear hk); (try clear hi)) | ((with_reducible refine gate_callee (f := 133) rfl ?_); refine goesL_ (some 42) rfl rfl Try.func133 (by kernel_rfl) rfl #[.slice A2 l2.length c2, .int .i64 a4, .int .i64 a5] rfl ag_ ?_; (with_reducible refine (impl_cueAt.calls kj8 _ _ l2 a4 a5 t462 _ ?side1 ?side2 A18.out).mono ?_); (case side1 => exact r5_ HR2.out HB.out); (case side2 => exact HC2.out); rintro e w43 ⟨rfl, hb⟩; refine ⟨_, rfl, ?_⟩; replace HB := Aside0.mk (below_step (bl_ HB.out) hb); (try clear hb); (try clear hb2); (try clear hk); (try clear hi)) | ((with_reducible refine gate_dst (N := 50) rfl ?_); refine Kd.R_lit k160 _ 160 ?hg (N := 50) ?hd (xs := ([] : List (S160))) (inner := []) (ok := fun _ => True) (okp := fun _ => True) ?hr ?hp (fun _ hk => hk) trivial (Below.refl _ _) (Nat.le_refl _) (by simp) ?_; (case hd => rfl); (case hg => rfl); (case hr => first | (go_simp; done) | (go_simp; rfl)); (case hp => exact (Reps.none _ _)); intro v472 w44 ho45 hb hg_ hnew_; clear hg_ hnew_; (first | rw [← Ny471.out] at ho45 | (simp only [Int.reduceToNat] at ho45; rw [← Ny471.out] at ho45)); have HO473 := Aside0.mk (Kd.R_lower ho45 (below_size (bl_ HB.out))); replace HB := Aside0.mk (below_step (bl_ HB.out) hb); clear hb ho45) | ((with_reducible refine gate_builtin (b := .append) (xs := #[.tmp 50, .tmp 51]) rfl ?_); at_builtin; refine Kd.R_append_rows k160 (w0 := w) w.heap.size rfl (.tmp 50) (.tmp 51) 44 160 (.agg #[(.int .i64 0), (.int .i64 0), (.int .i64 0)]) 24 rfl Try.underlying44 info160 rfl (by decide) (by omega) v472 y471 l2 _ _ _ (fun _ => True) (fun _ => False) rfl rfl ?aO ?aR (fun _ _ h => h) (fun _ h => h.elim) ?aF ?aB ?aS ?aL ?_; (case aR => exact r5_ HR2.out HB.out); (case aB => exact (bl_ HB.out)); (case aF => exact (fun _ _ => trivial)); (case aO => exact (rk_ HO473.out)); (case aS => exact (below_size (bl_ HB.out))); (case aL => have := LMc37.out; omega); intro v475 w46 ho hb hg hat; rw [← Ny474.out] at ho; have n0_ := Aside0.mk (hb); have n1_ := Aside0.mk (ho); clear HB; clear HO473; have HB := n0_; have HO476 := n1_; clear n0_ n1_; clear ho hb hg hat; have p40 : 0 ≤ (t461 : Int) := od_; have q40 : (t461 : Int) < ((y474.length : Int) : Int) := od_; obtain ⟨go40, co40, eo40, gb40, gl40, cl40, HG40⟩ := Kd.R_form HO476.out (by omega); (first | cases eo40 | (injection eo40 with ea_ en_ ec_; (first | subst ea_ | (injection ea_ with ea_; subst ea_)); subst ec_; clear en_)); have GB40 := Aside0.mk gb40; have GG40 := Aside0.mk HG40; clear gb40 gl40 HG40; obtain ⟨ce40, hcl40, hM40, hcc40, hfr40⟩ := Kd.R_elem HO476.out z160 (t461 : Int) p40 q40; obtain rfl := k160_openM hM40; have hx40_0 : w46.cell? ⟨go40, (t461 : Int).toNat * 3, none⟩ = some (.int .i64 ((rd_T160 y474 t461).f0)) := hcc40 0 _ rfl; have hx40_1 : w46.cell? ⟨go40, (t461 : Int).toNat * 3 + 1, none⟩ = some (.int .i64 ((rd_T160 y474 t461).f1)) := hcc40 1 _ rfl; have hx40_2 : w46.cell? ⟨go40, (t461 : Int).toNat * 3 + 2, none⟩ = some (.int .i64 ((rd_T160 y474 t461).f2)) := hcc40 2 _ rfl; have hf40_0 : w46.frozen? ⟨go40, (t461 : Int).toNat * 3, none⟩ = false := hfr40 0; have hf40_1 : w46.frozen? ⟨go40, (t461 : Int).toNat * 3 + 1, none⟩ = false := hfr40 1; have hf40_2 : w46.frozen? ⟨go40, (t461 : Int).toNat * 3 + 2, none⟩ = false := hfr40 2; clear hcl40 hcc40 hfr40 hM40; replace p40 := eq_true p40; replace q40 := eq_true q40; have HX47 := Aside0.mk (show Kd.R k160 160 w46 w.heap.size (fun _ => True) (.slice (some ⟨go40, 0, none⟩) y474.length co40) y474 from (rk_ HO476.out)); obtain ⟨ce47, hcl47, hM47, hcc47, hfr47⟩ := Kd.R_elem HX47.out z160 (t461 : Int) od_ (by have h_ : (t461 : Int) < ((y474.length : Int) : Int) := od_; first | exact h_ | (have e_ := (Kd.R_reads' HO476.out).1; omega) | simpa using h_); obtain rfl := k160_openM hM47; have HP47 := Kd.R_seg HX47.out (t461 : Int) od_ (by have h_ : (t461 : Int) < ((y474.length : Int) : Int) := od_; first | exact h_ | (have e_ := (Kd.R_reads' HO476.out).1; omega) | simpa using h_) (seg := [.int .i64 a4]) (j := 1) hcl47 hcc47 (show 2 ≤ 3 from by decide) (x' := (⟨(rd_T160 y474 t461).f0, a4, (rd_T160 y474 t461).f2⟩ : S160)) (k160_mkM _ _ _ (⟨(rd_T160 y474 t461).f0, a4, (rd_T160 y474 t461).f2⟩ : S160) ) (fun _ hk => hk); have hx47_1 := hcc47 1 _ rfl; (try simp only [show (k160).sz = 3 from rfl, Nat.mul_one, Nat.add_zero] at hx47_1); have hf47_1 := hfr47 1; (try simp only [show (k160).sz = 3 from rfl, Nat.mul_one, Nat.add_zero] at hf47_1); clear hcl47 hcc47 hfr47 hM47) | ((with_reducible refine gate_store (t := 2) (p := 60) rfl ?_); refine store_event (t := 2) (p := 60) (v := ?vo_w48) (w1 := (w46.setCell ⟨go40, (t461 : Int).toNat * 3 + 1, none⟩ (.int .i64 a4))) ?hg ?ho ?hn ?hr ?_; (case ho => rfl); (case hg => rfl); (case hn => rfl); (case hr => first | (go_simp; done) | (go_simp; rfl)); intro w48 hw; have hg : w46.grownBy w48 (some go40) := (by rw [hw]; exact HP47.2); have hp_ : Kd.R k160 160 w48 w.heap.size (fun _ => True) (.slice (some ⟨go40, 0, none⟩) y474.length co40) y477 := (by rw [hw, Ny477.out]; exact HP47.1); clear HP47; replace HO476 := Aside0.mk (hp_); replace HB := Aside0.mk ((by rw [hw]; exact below_set (HB.out) GB40.out : Below w.heap.size w w48)); clear hg hw hp_; have p41 : 0 ≤ (t461 : Int) := od_; have q41 : (t461 : Int) < ((y474.length : Int) : Int) := od_; obtain ⟨ce41, hcl41, hM41, hcc41, hfr41⟩ := Kd.R_elem HO476.out z160 (t461 : Int) p41 q41; obtain rfl := k160_openM hM41; have hx41_0 : w48.cell? ⟨go40, (t461 : Int).toNat * 3, none⟩ = some (.int .i64 ((rd_T160 y477 t461).f0)) := hcc41 0 _ rfl; have hx41_1 : w48.cell? ⟨go40, (t461 : Int).toNat * 3 + 1, none⟩ = some (.int .i64 ((rd_T160 y477 t461).f1)) := hcc41 1 _ rfl; have hx41_2 : w48.cell? ⟨go40, (t461 : Int).toNat * 3 + 2, none⟩ = some (.int .i64 ((rd_T160 y477 t461).f2)) := hcc41 2 _ rfl; have hf41_0 : w48.frozen? ⟨go40, (t461 : Int).toNat * 3, none⟩ = false := hfr41 0; have hf41_1 : w48.frozen? ⟨go40, (t461 : Int).toNat * 3 + 1, none⟩ = false := hfr41 1; have hf41_2 : w48.frozen? ⟨go40, (t461 : Int).toNat * 3 + 2, none⟩ = false := hfr41 2; clear hcl41 hcc41 hfr41 hM41; replace p41 := eq_true p41; replace q41 := eq_true q41; have HX49 := Aside0.mk (show Kd.R k160 160 w48 w.heap.size (fun _ => True) (.slice (some ⟨go40, 0, none⟩) y474.length co40) y477 from (rk_ HO476.out)); obtain ⟨ce49, hcl49, hM49, hcc49, hfr49⟩ := Kd.R_elem HX49.out z160 (t461 : Int) od_ (by have h_ : (t461 : Int) < ((y474.length : Int) : Int) := od_; first | exact h_ | (have e_ := (Kd.R_reads' HO476.out).1; omega) | simpa using h_); obtain rfl := k160_openM hM49; have HP49 := Kd.R_seg HX49.out (t461 : Int) od_ (by have h_ : (t461 : Int) < ((y474.length : Int) : Int) := od_; first | exact h_ | (have e_ := (Kd.R_reads' HO476.out).1; omega) | simpa using h_) (seg := [.int .i64 a5]) (j := 2) hcl49 hcc49 (show 3 ≤ 3 from by decide) (x' := (⟨(rd_T160 y477 t461).f0, (rd_T160 y477 t461).f1, a5⟩ : S160)) (k160_mkM _ _ _ (⟨(rd_T160 y477 t461).f0, (rd_T160 y477 t461).f1, a5⟩ : S160) ) (fun _ hk => hk); have hx49_2 := hcc49 2 _ rfl; (try simp only [show (k160).sz = 3 from rfl, Nat.mul_one, Nat.add_zero] at hx49_2); have hf49_2 := hfr49 2; (try simp only [show (k160).sz = 3 from rfl, Nat.mul_one, Nat.add_zero] at hf49_2); clear hcl49 hcc49 hfr49 hM49) | ((with_reducible refine gate_store (t := 2) (p := 62) rfl ?_); refine store_event (t := 2) (p := 62) (v := ?vo_w50) (w1 := (w48.setCell ⟨go40, (t461 : Int).toNat * 3 + 2, none⟩ (.int .i64 a5))) ?hg ?ho ?hn ?hr ?_; (case ho => rfl); (case hg => rfl); (case hn => rfl); (case hr => first | (go_simp; done) | (go_simp; rfl)); intro w50 hw; have hg : w48.grownBy w50 (some go40) := (by rw [hw]; exact HP49.2); have hp_ : Kd.R k160 160 w50 w.heap.size (fun _ => True) (.slice (some ⟨go40, 0, none⟩) y474.length co40) y478 := (by rw [hw, Ny478.out]; exact HP49.1); clear HP49; replace HO476 := Aside0.mk (hp_); replace HB := Aside0.mk ((by rw [hw]; exact below_set (HB.out) GB40.out : Below w.heap.size w w50)); clear hg hw hp_))
       go_ret2
       exact ⟨_, by first | rfl | (simp [errW_none, errW_some] <;> rfl) | (simp [*, errW_none, errW_some] <;> rfl), rk_ HO476.out, bl_ HB.out⟩
 ·replace c8 := Bool.eq_false_iff.mpr c8
  subst c8
  replace H : (some (([] : List (S160)), 1)) = some (r1, r2) := by rw [if_neg (show ¬ (false = true) by decide)] at H; exact H
  simp only [Option.some.injEq, Prod.mk.injEq] at H
  obtain ⟨rfl, rfl⟩ := H
  go_enter Try.func34, Try.ntmps34
  go_wp2_with (first | ((with_reducible refine gate_callee (f := 44) rfl ?_); refine goesL_ (some 20) rfl rfl Try.func44 (by kernel_rfl) rfl #[.slice A0 l0.length c0, .int .i64 a1, .slice A2 l2.length c2] rfl ag_ ?_; (with_reducible refine (impl_AreWires.calls k _ _ l0 a1 _ _ l2 false _ ?side1 ?side2 ?side3 ?side4 A7.out).mono ?_); (case side1 => exact r9_ HR0.out); (case side2 => exact HC0.out); (case side3 => exact r9_ HR2.out); (case side4 => exact HC2.out); rintro e w51 ⟨rfl, hb⟩; refine ⟨_, rfl, ?_⟩; replace HB := Aside0.mk (below_step (bl_ HB.out) hb); (try clear hb); (try clear hb2); (try clear hk); (try clear hi)))
  go_ret2
  exact ⟨_, by first | rfl | (simp [errW_none, errW_some] <;> rfl) | (simp [*, errW_none, errW_some] <;> rfl), by first | exact Kd.R_nil _ _ _ _ _ | exact Kd.N_nil _ _ _ _ _ | exact Kd.V_nil _ _ _ _ _ | exact Kd.Q_nil _ _ _ _ _ | exact Kd.S_nil _ _ _ _ _, bl_ HB.out⟩
def spec_l13Cue.f (k : Nat) (l0 : List (S200)) (a1 : Int) (l2 : List (S160)) (a3 : Int) : Option (Int) := (spec_l13Code.f k l0 a1 l2 0 a3).bind fun t479 => (if t479 = 0 then (if a1 = 0 then (some 2) else (some t479)) else (some t479))
set_option maxHeartbeats 8000000 in
set_option maxRecDepth 100000 in
theorem spec_l13Cue.calls (k : Nat) (A0 : Option Addr) (c0 : Nat) (l0 : List (S200)) (a1 : Int) (A2 : Option Addr) (c2 : Nat) (l2 : List (S160)) (a3 : Int) (r : Int) (w : World) (hr0 : Kd.C k200 w A0 l0.length l0) (hc0 : l0.length ≤ c0) (hr2 : Kd.C k160 w A2 l2.length l2) (hc2 : l2.length ≤ c2) (h : spec_l13Cue.f k l0 a1 l2 a3 = some r) :
    Calls Try.prog 134 #[.slice A0 l0.length c0, .int .i64 a1, .slice A2 l2.length c2, .int .i64 a3] w fun e w' => e = .returned (.int .i64 r) ∧ Below w.heap.size w w' := by
  have HR0 := Aside0.mk hr0
  have HC0 := Aside0.mk hc0
  clear hr0 hc0
  have HR2 := Aside0.mk hr2
  have HC2 := Aside0.mk hc2
  clear hr2 hc2
  have HB := Aside0.mk (Below.refl w.heap.size w)
  have H : ((spec_l13Code.f k l0 a1 l2 0 a3).bind fun t479 => (if t479 = 0 then (if a1 = 0 then (some 2) else (some t479)) else (some t479))) = some r := h
  clear h
  replace H := Option.bind_eq_some_iff.mp H
  obtain ⟨t479, A50, H⟩ := H
  replace H : (if t479 = 0 then (if a1 = 0 then (some 2) else (some t479)) else (some t479)) = some r := H
  have A5 := Aside0.mk A50
  clear A50
  by_cases c6 : t479 = 0
  · rw [if_pos c6] at H
    have c6b0 : (t479 == 0) = true := beq_iff_eq.mpr c6
    have c6b1 : (t479 != 0) = false := bne_eq_false_iff_eq.mpr c6
    clear c6
    by_cases c7 : a1 = 0
    · rw [if_pos c7] at H
      have c7b0 : (a1 == 0) = true := beq_iff_eq.mpr c7
      have c7b1 : (a1 != 0) = false := bne_eq_false_iff_eq.mpr c7
      clear c7
      obtain rfl := Option.some.inj H
      go_enter Try.func134, Try.ntmps134
      go_wp2_with (first | ((with_reducible refine gate_callee (f := 126) rfl ?_); refine goesL_ (some 14) rfl rfl Try.func126 (by kernel_rfl) rfl #[.slice A0 l0.length c0, .int .i64 a1, .slice A2 l2.length c2, .int .i64 0, .int .i64 a3] rfl ag_ ?_; (with_reducible refine (spec_l13Code.calls k _ _ l0 a1 _ _ l2 0 a3 t479 _ ?side1 ?side2 ?side3 ?side4 A5.out).mono ?_); (case side1 => exact r9_ HR0.out); (case side2 => exact HC0.out); (case side3 => exact r9_ HR2.out); (case side4 => exact HC2.out); rintro e w8 ⟨rfl, hb⟩; refine ⟨_, rfl, ?_⟩; replace HB := Aside0.mk (below_step (bl_ HB.out) hb); (try clear hb); (try clear hb2); (try clear hk); (try clear hi)))
      go_ret
      exact ⟨by first | rfl | (simp [errW_none, errW_some] <;> rfl) | (simp [*, errW_none, errW_some] <;> rfl), bl_ HB.out⟩
    · rw [if_neg c7] at H
      have c7b0 : (a1 == 0) = false := beq_eq_false_iff_ne.mpr c7
      have c7b1 : (a1 != 0) = true := bne_iff_ne.mpr c7
      obtain rfl := Option.some.inj H
      go_enter Try.func134, Try.ntmps134
      go_wp2_with (first | ((with_reducible refine gate_callee (f := 126) rfl ?_); refine goesL_ (some 14) rfl rfl Try.func126 (by kernel_rfl) rfl #[.slice A0 l0.length c0, .int .i64 a1, .slice A2 l2.length c2, .int .i64 0, .int .i64 a3] rfl ag_ ?_; (with_reducible refine (spec_l13Code.calls k _ _ l0 a1 _ _ l2 0 a3 t479 _ ?side1 ?side2 ?side3 ?side4 A5.out).mono ?_); (case side1 => exact r9_ HR0.out); (case side2 => exact HC0.out); (case side3 => exact r9_ HR2.out); (case side4 => exact HC2.out); rintro e w9 ⟨rfl, hb⟩; refine ⟨_, rfl, ?_⟩; replace HB := Aside0.mk (below_step (bl_ HB.out) hb); (try clear hb); (try clear hb2); (try clear hk); (try clear hi)))
      go_ret
      exact ⟨by first | rfl | (simp [errW_none, errW_some] <;> rfl) | (simp [*, errW_none, errW_some] <;> rfl), bl_ HB.out⟩
  · rw [if_neg c6] at H
    have c6b0 : (t479 == 0) = false := beq_eq_false_iff_ne.mpr c6
    have c6b1 : (t479 != 0) = true := bne_iff_ne.mpr c6
    obtain rfl := Option.some.inj H
    go_enter Try.func134, Try.ntmps134
    go_wp2_with (first | ((with_reducible refine gate_callee (f := 126) rfl ?_); refine goesL_ (some 14) rfl rfl Try.func126 (by kernel_rfl) rfl #[.slice A0 l0.length c0, .int .i64 a1, .slice A2 l2.length c2, .int .i64 0, .int .i64 a3] rfl ag_ ?_; (with_reducible refine (spec_l13Code.calls k _ _ l0 a1 _ _ l2 0 a3 t479 _ ?side1 ?side2 ?side3 ?side4 A5.out).mono ?_); (case side1 => exact r9_ HR0.out); (case side2 => exact HC0.out); (case side3 => exact r9_ HR2.out); (case side4 => exact HC2.out); rintro e w10 ⟨rfl, hb⟩; refine ⟨_, rfl, ?_⟩; replace HB := Aside0.mk (below_step (bl_ HB.out) hb); (try clear hb); (try clear hb2); (try clear hk); (try clear hi)))
    go_ret
    exact ⟨by first | rfl | (simp [errW_none, errW_some] <;> rfl) | (simp [*, errW_none, errW_some] <;> rfl), bl_ HB.out⟩
end Go.Proofs.Ytedcdhnbceaaeaa.PFnWired
