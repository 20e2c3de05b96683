/- QFnTablesb of the law FnTables: taken over, declaration by declaration, as far as the law leans on it (the words and the printed functions are the kit's own print). No condition but what each says. -/
import Derived.Test.YtedcdhnbceaaeaaZFnTablesav
import Derived.Test.YtedcdhnbceaaeaaZFnTablesaw
import Derived.Test.YtedcdhnbceaaeaaZFnTablesax
namespace Go.Proofs.Ytedcdhnbceaaeaa.PFnTables
open Go.RowKit Go.Proofs.YtedcdhnbceaaeaaW.PrintWords Go.Proofs.YtedcdhnbceaaeaaW.PrintLast Go.Proofs.YtedcdhnbceaaeaaW.PrintMore
attribute [local go_sem] max2_int min2_int max_two min_two max_three min_three max_four min_four   -- for this text's walks alone
set_option linter.unusedVariables false
set_option linter.unusedSimpArgs false
open Bool renaming true → t_, false → f_
def spec_l16Against.l0 : Nat → List (S81) → List (S83) → Int → Int → Int → List Int → Int → Option (List Int)
 | 0, _, _, _, _, _, _, _ => none
 | k + 1, x0, x1, x2, x3, x4, x11, x12 => if x12 < (x1.length : Int) then (if 0 ≤ x12 then ((spec_l16Distance.f k x0 x2 ((rd_T83 x1 x12).f0)).bind fun t137 => (if t137 < 0 then (if x11.length < 17592186044416 then (spec_l16Against.l0 k x0 x1 x2 x3 x4 (x11 ++ [x12]) (wrap64 (x12 + 1))) else (none)) else ((spec_l15Square.f ((rd_T83 x1 x12).f0) ((rd_T83 x1 x12).f1) ((rd_T83 x1 x12).f2) ((rd_T83 x1 x12).f3) ((rd_T83 x1 x12).f4) x3 x4).bind fun t142 => (if t142 < (wrap64 (t137 * t137)) then (if x11.length < 17592186044416 then (spec_l16Against.l0 k x0 x1 x2 x3 x4 (x11 ++ [x12]) (wrap64 (x12 + 1))) else (none)) else (spec_l16Against.l0 k x0 x1 x2 x3 x4 x11 (wrap64 (x12 + 1))))))) else (none)) else (some x11)
def spec_l16Against.f (k : Nat) (l0 : List (S81)) (l1 : List (S83)) (a2 : Int) (a3 : Int) (a4 : Int) : Option (List Int) := spec_l16Against.l0 k l0 l1 a2 a3 a4 (([] : List Int)) 0
set_option maxHeartbeats 8000000 in
set_option maxRecDepth 100000 in
theorem spec_l16Against.calls (k : Nat) (A0 : Option Addr) (c0 : Nat) (l0 : List (S81)) (A1 : Option Addr) (c1 : Nat) (l1 : List (S83)) (a2 : Int) (a3 : Int) (a4 : Int) (r : List Int) (w : World) (hr0 : Kd.C k81 w A0 l0.length l0) (hc0 : l0.length ≤ c0) (hr1 : Kd.C k83 w A1 l1.length l1) (hc1 : l1.length ≤ c1) (h : spec_l16Against.f k l0 l1 a2 a3 a4 = some r) :
  Calls Try.prog 111 #[.slice A0 l0.length c0, .slice A1 l1.length c1, .int .i64 a2, .int .i64 a3, .int .i64 a4] w fun e w' => ∃ v0_ : Value, e = .returned (v0_) ∧ Kd.R (Kd.int .i64) 2 w' w.heap.size (fun _ => True) v0_ r ∧ Below w.heap.size w w' := by
 have hu83 := Try.underlying83
 have HR0 := Aside0.mk hr0
 have HC0 := Aside0.mk hc0
 clear hr0 hc0
 have HR1 := Aside0.mk hr1
 have HC1 := Aside0.mk hc1
 clear hr1 hc1
 have HB := Aside0.mk (Below.refl w.heap.size w)
 have H : (spec_l16Against.l0 k l0 l1 a2 a3 a4 (([] : List Int)) 0) = some r := h
 clear h
 obtain ⟨y133, hy133⟩ : ∃ y_ : List Int, y_ = (([] : List Int)) := ⟨_, rfl⟩
 replace H : (spec_l16Against.l0 k l0 l1 a2 a3 a4 y133 0) = some r := by first | (rw [hy133]; with_reducible exact H) | (have H2_ := (Option.bind_some _ _).symm.trans H; rw [hy133]; with_reducible exact H2_) | (have H2_ := (Option.bind_some _ _).symm.trans H; with_reducible exact H2_) | with_reducible exact H | (rw [hy133]; exact H) | exact H
 have Ny133 := Aside0.mk hy133
 clear hy133
 have H' := Aside0.mk H
 clear H
 go_enter Try.func111, Try.ntmps111
 go_wp2_with (first | ((with_reducible refine gate_dst (N := 14) rfl ?_); refine Kd.R_lit (Kd.int .i64) _ 2 ?hg (N := 14) ?hd (xs := ([] : List Int)) (inner := []) (ok := fun _ => True) (okp := fun _ => True) ?hr ?hp (fun _ hk => hk) trivial (Below.refl _ _) (Nat.le_refl _) (by simp) ?_; (case hd => rfl); (case hg => rfl); (case hr => first | (go_simp; done) | (go_simp; rfl)); (case hp => exact (Reps.none _ _)); intro v134 w6 ho7 hb hg_ hnew_; clear hg_ hnew_; (first | rw [← Ny133.out] at ho7 | (simp only [Int.reduceToNat] at ho7; rw [← Ny133.out] at ho7)); have HO135 := Aside0.mk (Kd.R_lower ho7 (below_size (bl_ HB.out))); replace HB := Aside0.mk (below_step (bl_ HB.out) hb); clear hb ho7))
 go_loopg [11, 12] k (fun kq v11 v12 w' => ∃ (x11_1 : List Int) (x12_1 : Int), v12 = .int .i64 x12_1 ∧ Aside0 (spec_l16Against.l0 kq l0 l1 a2 a3 a4 x11_1 x12_1 = some r) ∧ Aside0 (kq ≤ k) ∧ Aside0 (Kd.R (Kd.int .i64) 2 w' w.heap.size (fun _ => True) v11 x11_1) ∧ Aside0 (Below w.heap.size w w'))
 case atStart => exact ⟨(y133), (0), rs_, H', ⟨Nat.le_refl _⟩, ⟨rk_ HO135.out⟩, ⟨bl_ HB.out⟩⟩
 case round =>
  clear H'
  try clear c1
  try clear p2
  obtain ⟨x11_1, x12_1, rfl, HA, HK1, HO_11, HB⟩ := hrel
  cases gk with
  | zero => exact absurd HA.out (by simp [spec_l16Against.l0])
  | succ k1 =>
   have H := HA.out
   clear HA
   simp only [spec_l16Against.l0] at H
   by_cases c8 : x12_1 < (l1.length : Int)
   case neg =>
    rw [if_neg c8] at H
    have c8b0 := decide_eq_false c8
    clear c8
    obtain rfl := Option.some.inj H
    go_wp2
    go_ret
    exact ⟨_, re_, rk_ HO_11.out, bl_ HB.out⟩


   rw [if_pos c8] at H
   have c8b0 := decide_eq_true c8
   clear c8
   by_cases c9 : 0 ≤ x12_1
   case neg =>
    rw [if_neg c9] at H
    exact absurd H (by simp)
   rw [if_pos c9] at H
   have c9b0 := decide_eq_true c9
   clear c9
   replace H := Option.bind_eq_some_iff.mp H
   obtain ⟨t137, A100, H⟩ := H
   try dsimp only at H
   have A10 := Aside0.mk A100
   clear A100
   by_cases c11 : t137 < 0
   case pos =>
    rw [if_pos c11] at H
    have c11b0 := decide_eq_true c11
    clear c11
    by_cases c12 : x11_1.length < 17592186044416
    case neg =>
     rw [if_neg c12] at H
     exact absurd H (by simp)
    rw [if_pos c12] at H
    have LMc12 := Aside0.mk c12
    clear c12
    obtain ⟨y138, hy138⟩ : ∃ y_ : List Int, y_ = (x11_1 ++ [x12_1]) := ⟨_, rfl⟩
    replace H : (spec_l16Against.l0 k1 l0 l1 a2 a3 a4 y138 (wrap64 (x12_1 + 1))) = some r := by first | (rw [hy138]; with_reducible exact H) | (have H2_ := (Option.bind_some _ _).symm.trans H; rw [hy138]; with_reducible exact H2_) | (have H2_ := (Option.bind_some _ _).symm.trans H; with_reducible exact H2_) | with_reducible exact H | (rw [hy138]; exact H) | exact H
    have Ny138 := Aside0.mk hy138
    clear hy138
    have H' := Aside0.mk H
    clear H
    have p136 : 0 ≤ (x12_1 : Int) := od_
    have q136 : x12_1 < (l1.length : Int) := od_
    obtain ⟨ad136, e136, hx136_0, hx136_1, hx136_2, hx136_3, hx136_4⟩ := at_T83 HR1.out x12_1 p136 q136
    cases e136
    replace hx136_0 := bc_ HB.out hx136_0
    replace hx136_1 := bc_ HB.out hx136_1
    replace hx136_2 := bc_ HB.out hx136_2
    replace hx136_3 := bc_ HB.out hx136_3
    replace hx136_4 := bc_ HB.out hx136_4
    replace p136 := eq_true p136
    replace q136 := eq_true q136
    go_wp2_with (first | ((with_reducible refine gate_callee (f := 198) rfl ?_); refine goesL_ (some 28) rfl rfl Try.func198 (by kernel_rfl) rfl #[.slice A0 l0.length c0, .int .i64 a2, .int .i64 ((rd_T83 l1 x12_1).f0)] rfl ag_ ?_; (with_reducible refine (spec_l16Distance.calls k1 _ _ l0 a2 ((rd_T83 l1 x12_1).f0) t137 _ ?side1 ?side2 A10.out).mono ?_); (case side1 => exact r7_ HR0.out HB.out); (case side2 => exact HC0.out); rintro e w' ⟨rfl, ⟨nd, rfl⟩⟩; refine ⟨_, rfl, ?_⟩) | ((with_reducible refine gate_builtin (b := .append) (xs := #[.tmp 44, .tmp 46]) rfl ?_); at_builtin; refine Kd.R_append (Kd.int .i64) (w0 := w) w.heap.size rfl (.tmp 44) (.tmp 46) 24 2 (.int .i64 0) 8 rfl Try.underlying24 info2 rfl (by decide) (by omega) u11 x11_1 x12_1 [.int .i64 x12_1] (fun _ => True) (fun _ => False) rfl rfl ?aP (fun _ hk => hk.elim) ?aF ?aO ?aB ?aS ?aL ?_; (case aP => exact rfl); (case aB => exact (bl_ HB.out)); (case aF => exact (fun _ _ => trivial)); (case aO => exact (rk_ HO_11.out)); (case aS => exact (below_size (bl_ HB.out))); (case aL => have := LMc12.out; omega); intro v139 w13 ho hb hg hat; rw [← Ny138.out] at ho; have n0_ := Aside0.mk (hb); have n1_ := Aside0.mk (ho); clear HB; clear HO_11; have HB := n0_; have HO140 := n1_; clear n0_ n1_; clear ho hb hg hat))
    go_roundg k1
    case measure => have := HK1.out; omega
    case rel => exact ⟨(y138), (wrap64 (x12_1 + 1)), rs_, H', ⟨by have := HK1.out; omega⟩, ⟨rk_ HO140.out⟩, ⟨bl_ HB.out⟩⟩
   rw [if_neg c11] at H
   have c11b0 := decide_eq_false c11
   clear c11
   replace H := Option.bind_eq_some_iff.mp H
   obtain ⟨t142, A140, H⟩ := H
   try dsimp only at H
   have A14 := Aside0.mk A140
   clear A140
   by_cases c15 : t142 < (wrap64 (t137 * t137))
   case neg =>
    rw [if_neg c15] at H
    have c15b0 := decide_eq_false c15
    clear c15
    have H' := Aside0.mk H
    clear H
    have p136 : 0 ≤ (x12_1 : Int) := od_
    have q136 : x12_1 < (l1.length : Int) := od_
    obtain ⟨ad136, e136, hx136_0, hx136_1, hx136_2, hx136_3, hx136_4⟩ := at_T83 HR1.out x12_1 p136 q136
    cases e136
    replace hx136_0 := bc_ HB.out hx136_0
    replace hx136_1 := bc_ HB.out hx136_1
    replace hx136_2 := bc_ HB.out hx136_2
    replace hx136_3 := bc_ HB.out hx136_3
    replace hx136_4 := bc_ HB.out hx136_4
    replace p136 := eq_true p136
    replace q136 := eq_true q136
    go_wp2_with (first | ((with_reducible refine gate_callee (f := 198) rfl ?_); refine goesL_ (some 28) rfl rfl Try.func198 (by kernel_rfl) rfl #[.slice A0 l0.length c0, .int .i64 a2, .int .i64 ((rd_T83 l1 x12_1).f0)] rfl ag_ ?_; (with_reducible refine (spec_l16Distance.calls k1 _ _ l0 a2 ((rd_T83 l1 x12_1).f0) t137 _ ?side1 ?side2 A10.out).mono ?_); (case side1 => exact r7_ HR0.out HB.out); (case side2 => exact HC0.out); rintro e w' ⟨rfl, ⟨nd, rfl⟩⟩; refine ⟨_, rfl, ?_⟩; have p141 : 0 ≤ (x12_1 : Int) := od_; have q141 : x12_1 < (l1.length : Int) := od_; obtain ⟨ad141, e141, hx141_0, hx141_1, hx141_2, hx141_3, hx141_4⟩ := at_T83 HR1.out x12_1 p141 q141; obtain rfl : ad136 = ad141 := (by injection e141); replace hx141_0 := bc_ HB.out hx141_0; replace hx141_1 := bc_ HB.out hx141_1; replace hx141_2 := bc_ HB.out hx141_2; replace hx141_3 := bc_ HB.out hx141_3; replace hx141_4 := bc_ HB.out hx141_4; replace p141 := eq_true p141; replace q141 := eq_true q141) | (go_at_call 176; (with_reducible refine (spec_l15Square.calls ((rd_T83 l1 x12_1).f0) ((rd_T83 l1 x12_1).f1) ((rd_T83 l1 x12_1).f2) ((rd_T83 l1 x12_1).f3) ((rd_T83 l1 x12_1).f4) a3 a4 t142 _ A14.out).mono ?_); rintro e w19 ⟨rfl, hb⟩; replace HO_11 := Aside0.mk (Kd.R_below (rk_ HO_11.out) hb); replace HB := Aside0.mk (below_step (bl_ HB.out) hb); (try clear hb); (try clear hb2); (try clear hk); (try clear hi)))
    go_roundg k1
    case measure => have := HK1.out; omega
    case rel => exact ⟨(x11_1), (wrap64 (x12_1 + 1)), rs_, H', ⟨by have := HK1.out; omega⟩, ⟨rk_ HO_11.out⟩, ⟨bl_ HB.out⟩⟩
   rw [if_pos c15] at H
   have c15b0 := decide_eq_true c15
   clear c15
   by_cases c16 : x11_1.length < 17592186044416
   case neg =>
    rw [if_neg c16] at H
    exact absurd H (by simp)
   rw [if_pos c16] at H
   have LMc16 := Aside0.mk c16
   clear c16
   obtain ⟨y143, hy143⟩ : ∃ y_ : List Int, y_ = (x11_1 ++ [x12_1]) := ⟨_, rfl⟩
   replace H : (spec_l16Against.l0 k1 l0 l1 a2 a3 a4 y143 (wrap64 (x12_1 + 1))) = some r := by first | (rw [hy143]; with_reducible exact H) | (have H2_ := (Option.bind_some _ _).symm.trans H; rw [hy143]; with_reducible exact H2_) | (have H2_ := (Option.bind_some _ _).symm.trans H; with_reducible exact H2_) | with_reducible exact H | (rw [hy143]; exact H) | exact H
   have Ny143 := Aside0.mk hy143
   clear hy143
   have H' := Aside0.mk H
   clear H
   have p136 : 0 ≤ (x12_1 : Int) := od_
   have q136 : x12_1 < (l1.length : Int) := od_
   obtain ⟨ad136, e136, hx136_0, hx136_1, hx136_2, hx136_3, hx136_4⟩ := at_T83 HR1.out x12_1 p136 q136
   cases e136
   replace hx136_0 := bc_ HB.out hx136_0
   replace hx136_1 := bc_ HB.out hx136_1
   replace hx136_2 := bc_ HB.out hx136_2
   replace hx136_3 := bc_ HB.out hx136_3
   replace hx136_4 := bc_ HB.out hx136_4
   replace p136 := eq_true p136
   replace q136 := eq_true q136
   go_wp2_with (first | ((with_reducible refine gate_callee (f := 198) rfl ?_); refine goesL_ (some 28) rfl rfl Try.func198 (by kernel_rfl) rfl #[.slice A0 l0.length c0, .int .i64 a2, .int .i64 ((rd_T83 l1 x12_1).f0)] rfl ag_ ?_; (with_reducible refine (spec_l16Distance.calls k1 _ _ l0 a2 ((rd_T83 l1 x12_1).f0) t137 _ ?side1 ?side2 A10.out).mono ?_); (case side1 => exact r7_ HR0.out HB.out); (case side2 => exact HC0.out); rintro e w' ⟨rfl, ⟨nd, rfl⟩⟩; refine ⟨_, rfl, ?_⟩; have p141 : 0 ≤ (x12_1 : Int) := od_; have q141 : x12_1 < (l1.length : Int) := od_; obtain ⟨ad141, e141, hx141_0, hx141_1, hx141_2, hx141_3, hx141_4⟩ := at_T83 HR1.out x12_1 p141 q141; obtain rfl : ad136 = ad141 := (by injection e141); replace hx141_0 := bc_ HB.out hx141_0; replace hx141_1 := bc_ HB.out hx141_1; replace hx141_2 := bc_ HB.out hx141_2; replace hx141_3 := bc_ HB.out hx141_3; replace hx141_4 := bc_ HB.out hx141_4; replace p141 := eq_true p141; replace q141 := eq_true q141) | (go_at_call 176; (with_reducible refine (spec_l15Square.calls ((rd_T83 l1 x12_1).f0) ((rd_T83 l1 x12_1).f1) ((rd_T83 l1 x12_1).f2) ((rd_T83 l1 x12_1).f3) ((rd_T83 l1 x12_1).f4) a3 a4 t142 _ A14.out).mono ?_); rintro e w17 ⟨rfl, hb⟩; replace HO_11 := Aside0.mk (Kd.R_below (rk_ HO_11.out) hb); replace HB := Aside0.mk (below_step (bl_ HB.out) hb); (try clear hb); (try clear hb2); (try clear hk); (try clear hi)) | ((with_reducible refine gate_builtin (b := .append) (xs := #[.tmp 44, .tmp 46]) rfl ?_); at_builtin; refine Kd.R_append (Kd.int .i64) (w0 := w) w.heap.size rfl (.tmp 44) (.tmp 46) 24 2 (.int .i64 0) 8 rfl Try.underlying24 info2 rfl (by decide) (by omega) u11 x11_1 x12_1 [.int .i64 x12_1] (fun _ => True) (fun _ => False) rfl rfl ?aP (fun _ hk => hk.elim) ?aF ?aO ?aB ?aS ?aL ?_; (case aP => exact rfl); (case aB => exact (bl_ HB.out)); (case aF => exact (fun _ _ => trivial)); (case aO => exact (rk_ HO_11.out)); (case aS => exact (below_size (bl_ HB.out))); (case aL => have := LMc16.out; omega); intro v144 w18 ho hb hg hat; rw [← Ny143.out] at ho; have n0_ := Aside0.mk (hb); have n1_ := Aside0.mk (ho); clear HB; clear HO_11; have HB := n0_; have HO145 := n1_; clear n0_ n1_; clear ho hb hg hat))
   go_roundg k1
   case measure => have := HK1.out; omega
   case rel => exact ⟨(y143), (wrap64 (x12_1 + 1)), rs_, H', ⟨by have := HK1.out; omega⟩, ⟨rk_ HO145.out⟩, ⟨bl_ HB.out⟩⟩
mutual
def spec_AllowedPlaces.j0 : Nat → List (S81) → List (S83) → Int → List Int → List Int → Int → Bool → Option (List Int × Int)
 | 0, _, _, _, _, _, _, _ => none
 | k + 1, x0, x1, x2, x3, x4, x12, x33 => if x33 = true then (spec_AllowedPlaces.j1 k x0 x1 x2 x3 x4 2) else (spec_AllowedPlaces.j1 k x0 x1 x2 x3 x4 x12)
def spec_AllowedPlaces.j1 : Nat → List (S81) → List (S83) → Int → List Int → List Int → Int → Option (List Int × Int)
 | 0, _, _, _, _, _, _ => none
 | k + 1, x0, x1, x2, x3, x4, x12 => spec_AllowedPlaces.l0 k x0 x1 x2 x3 x4 x12 0
def spec_AllowedPlaces.l0 : Nat → List (S81) → List (S83) → Int → List Int → List Int → Int → Int → Option (List Int × Int)
 | 0, _, _, _, _, _, _, _ => none
 | k + 1, x0, x1, x2, x3, x4, x12, x13 => if x13 < (x3.length : Int) then (spec_AllowedPlaces.j3 k x0 x1 x2 x3 x4 x12 x13 (x12 == 0)) else (spec_AllowedPlaces.j3 k x0 x1 x2 x3 x4 x12 x13 false)
def spec_AllowedPlaces.j3 : Nat → List (S81) → List (S83) → Int → List Int → List Int → Int → Int → Bool → Option (List Int × Int)
 | 0, _, _, _, _, _, _, _, _ => none
 | k + 1, x0, x1, x2, x3, x4, x12, x13, x41 => if x41 = true then (if 0 ≤ x13 then (if x13 < (x3.length : Int) then (if x13 < (x4.length : Int) then ((spec_l15Place.f (rd x3 x13) (rd x4 x13)).bind fun t149 => (if t149 = true then (spec_AllowedPlaces.l0 k x0 x1 x2 x3 x4 x12 (wrap64 (x13 + 1))) else (spec_AllowedPlaces.l0 k x0 x1 x2 x3 x4 2 (wrap64 (x13 + 1))))) else (none)) else (none)) else (none)) else (if x12 = 0 then (spec_AllowedPlaces.l1 k x0 x1 x2 x3 x4 (([] : List Int)) 0) else (some (([] : List Int), x12)))
def spec_AllowedPlaces.l1 : Nat → List (S81) → List (S83) → Int → List Int → List Int → List Int → Int → Option (List Int × Int)
 | 0, _, _, _, _, _, _, _ => none
 | k + 1, x0, x1, x2, x3, x4, x14, x15 => if x15 < (x3.length : Int) then (if 0 ≤ x15 then (if x15 < (x4.length : Int) then ((spec_l16Against.f k x0 x1 x2 (rd x3 x15) (rd x4 x15)).bind fun t155 => (if (t155.length : Int) = 0 then (if x14.length < 17592186044416 then (spec_AllowedPlaces.l1 k x0 x1 x2 x3 x4 (x14 ++ [x15]) (wrap64 (x15 + 1))) else (none)) else (spec_AllowedPlaces.l1 k x0 x1 x2 x3 x4 x14 (wrap64 (x15 + 1))))) else (none)) else (none)) else (some (x14, 0))
end
def spec_AllowedPlaces.f (k : Nat) (l0 : List (S81)) (l1 : List (S83)) (a2 : Int) (l3 : List Int) (l4 : List Int) : Option (List Int × Int) := (spec_l16Code.f k l0 l1 a2 0 0).bind fun t146 => (if t146 = 0 then (if (l3.length : Int) = (l4.length : Int) then (spec_AllowedPlaces.j0 k l0 l1 a2 l3 l4 t146 (decide ((l3.length : Int) > 60))) else (spec_AllowedPlaces.j0 k l0 l1 a2 l3 l4 t146 true)) else (spec_AllowedPlaces.j0 k l0 l1 a2 l3 l4 t146 false))
def spec_AllowedPlaces.T7 : Bool × List (List Nat × List Nat) := (true, [([], []), ([], []), ([0, 1], [0, 1]), ([2], [2]), ([], []), ([], []), ([4, 5], [4, 5]), ([6], [6]), ([3, 7], [3, 7]), ([8], [8])])
def spec_AllowedPlaces.B7 : List Nat := [0, 0, 3, 7, 0, 0, 48, 112, 255, 511]
theorem spec_AllowedPlaces.tab7 : rtab .any (opsOf Try.f16 7) = spec_AllowedPlaces.T7 := by kernel_rfl
theorem spec_AllowedPlaces.bits7 : waitsOk spec_AllowedPlaces.T7.2 spec_AllowedPlaces.B7 = true := by kernel_rfl
def spec_AllowedPlaces.T15 : Bool × List (List Nat × List Nat) := (true, [([], []), ([], []), ([], []), ([], []), ([], []), ([3, 4], [3, 4]), ([5], [5]), ([], []), ([], []), ([7, 8], [7, 8]), ([9], [9]), ([0, 1, 2, 6, 10], [0, 1, 2, 6, 10]), ([11], [11]), ([12], [12])])
def spec_AllowedPlaces.B15 : List Nat := [0, 0, 0, 0, 0, 24, 56, 0, 0, 384, 896, 2047, 4095, 8191]
theorem spec_AllowedPlaces.tab15 : rtab .any (opsOf Try.f16 15) = spec_AllowedPlaces.T15 := by kernel_rfl
theorem spec_AllowedPlaces.bits15 : waitsOk spec_AllowedPlaces.T15.2 spec_AllowedPlaces.B15 = true := by kernel_rfl
set_option maxHeartbeats 8000000 in
set_option maxRecDepth 100000 in
theorem spec_AllowedPlaces.calls (k : Nat) (A0 : Option Addr) (c0 : Nat) (l0 : List (S81)) (A1 : Option Addr) (c1 : Nat) (l1 : List (S83)) (a2 : Int) (A3 : Option Addr) (c3 : Nat) (l3 : List Int) (A4 : Option Addr) (c4 : Nat) (l4 : List Int) (r1 : List Int) (r2 : Int) (w : World) (hr0 : Kd.C k81 w A0 l0.length l0) (hc0 : l0.length ≤ c0) (hr1 : Kd.C k83 w A1 l1.length l1) (hc1 : l1.length ≤ c1) (hr3 : Kd.C (Kd.int .i64) w A3 l3.length l3) (hc3 : l3.length ≤ c3) (hr4 : Kd.C (Kd.int .i64) w A4 l4.length l4) (hc4 : l4.length ≤ c4) (h : spec_AllowedPlaces.f k l0 l1 a2 l3 l4 = some (r1, r2)) :
  Calls Try.prog 16 #[.slice A0 l0.length c0, .slice A1 l1.length c1, .int .i64 a2, .slice A3 l3.length c3, .slice A4 l4.length c4] w fun e w' => ∃ v0_ : Value, e = .returned (.tuple #[v0_, .int .i64 r2]) ∧ Kd.R (Kd.int .i64) 2 w' w.heap.size (fun _ => True) v0_ r1 ∧ Below w.heap.size w w' := by
 have HR0 := Aside0.mk hr0
 have HC0 := Aside0.mk hc0
 clear hr0 hc0
 have HR1 := Aside0.mk hr1
 have HC1 := Aside0.mk hc1
 clear hr1 hc1
 have HR3 := Aside0.mk hr3
 have HC3 := Aside0.mk hc3
 clear hr3 hc3
 have HR4 := Aside0.mk hr4
 have HC4 := Aside0.mk hc4
 clear hr4 hc4
 have HB := Aside0.mk (Below.refl w.heap.size w)
 have H : ((spec_l16Code.f k l0 l1 a2 0 0).bind fun t146 => (if t146 = 0 then (if (l3.length : Int) = (l4.length : Int) then (spec_AllowedPlaces.j0 k l0 l1 a2 l3 l4 t146 (decide ((l3.length : Int) > 60))) else (spec_AllowedPlaces.j0 k l0 l1 a2 l3 l4 t146 true)) else (spec_AllowedPlaces.j0 k l0 l1 a2 l3 l4 t146 false))) = some (r1, r2) := h
 clear h
 replace H := Option.bind_eq_some_iff.mp H
 obtain ⟨t146, A60, H⟩ := H
 try dsimp only at H
 have A6 := Aside0.mk A60
 clear A60
 have HC7 := Aside0.mk H
 clear H
 go_enter Try.func16, Try.ntmps16
 go_upto_region 2 with (first | ((with_reducible refine gate_callee (f := 109) rfl ?_); refine goesL_ (some 19) rfl rfl Try.func109 (by kernel_rfl) rfl #[.slice A0 l0.length c0, .slice A1 l1.length c1, .int .i64 a2, .int .i64 0, .int .i64 0] rfl ag_ ?_; (with_reducible refine (spec_l16Code.calls k _ _ l0 _ _ l1 a2 0 0 t146 _ ?side1 ?side2 ?side3 ?side4 A6.out).mono ?_); (case side1 => exact r9_ HR0.out); (case side2 => exact HC0.out); (case side3 => exact r9_ HR1.out); (case side4 => exact HC1.out); rintro e w8 ⟨rfl, hb⟩; refine ⟨_, rfl, ?_⟩; replace HB := Aside0.mk (below_step (bl_ HB.out) hb); (try clear hb); (try clear hb2); (try clear hk); (try clear hi)))
 (try simp only [Act.put, List.setIfInBounds_toArray, List.set_cons_zero, List.set_cons_succ])
 go_cut [33] (fun v33 wc => ∃ (kq : Nat) (x33_6 : Bool), v33 = .bool x33_6 ∧ Aside0 (spec_AllowedPlaces.j0 kq l0 l1 a2 l3 l4 t146 x33_6 = some (r1, r2)) ∧ Aside0 (kq ≤ k) ∧ Aside0 (Below w.heap.size w wc))
 case first =>
  have H := HC7.out
  clear HC7
  by_cases c9 : t146 = 0
  case neg =>
   rw [if_neg c9] at H
   have c9b0 := beq_eq_false_iff_ne.mpr c9
   have c9b1 := bne_iff_ne.mpr c9
   (first | rw [c9b0] | (simp only [i64_w, i32_w]; rw [c9b0]) | skip)
   have H' := Aside0.mk H
   clear H
   go_wp2
   go_meet
   case rel => exact ⟨_, (false), rs_, H', ⟨by first | omega | exact Nat.le_refl _⟩, ⟨bl_ HB.out⟩⟩
  rw [if_pos c9] at H
  have c9b0 := beq_iff_eq.mpr c9
  have c9b1 := bne_eq_false_iff_eq.mpr c9
  clear c9
  (first | rw [c9b0] | (simp only [i64_w, i32_w]; rw [c9b0]) | skip)
  by_cases c10 : (l3.length : Int) = (l4.length : Int)
  case neg =>
   rw [if_neg c10] at H
   have c10b0 := beq_eq_false_iff_ne.mpr c10
   have c10b1 := bne_iff_ne.mpr c10
   have c10b2 : (l3.length == l4.length) = false := by first | simpa using c10 | (simp at c10 ⊢; omega)
   have H' := Aside0.mk H
   clear H
   go_wp2
   go_meet
   case rel => exact ⟨_, (true), rs_, H', ⟨by first | omega | exact Nat.le_refl _⟩, ⟨bl_ HB.out⟩⟩
  rw [if_pos c10] at H
  have c10b0 := beq_iff_eq.mpr c10
  have c10b1 := bne_eq_false_iff_eq.mpr c10
  have c10b2 : (l3.length == l4.length) = true := by first | simpa using c10 | (simp at c10 ⊢; omega)
  clear c10
  have H' := Aside0.mk H
  clear H
  go_wp2
  go_meet
  case rel => exact ⟨_, (decide ((l3.length : Int) > 60)), rs_, H', ⟨by first | omega | exact Nat.le_refl _⟩, ⟨bl_ HB.out⟩⟩
 case rest =>
  clear HC7
  try clear c1
  try clear p2
  try clear c3
  try clear c4
  try clear c9
  try clear c9b0
  try clear c9b1
  try clear c10
  try clear c10b0
  try clear c10b1
  try clear c10b2
  obtain ⟨kq, x33_6, rfl, HA, HJ6, HB⟩ := hcut
  cases kq with
  | zero => exact absurd HA.out (by simp [spec_AllowedPlaces.j0])
  | succ kj6 =>
   have H := HA.out
   clear HA
   simp only [spec_AllowedPlaces.j0] at H
   have HC11 := Aside0.mk H
   clear H
   go_upto_if 33 with (fail)
   go_cut [12] (fun v12 wc => ∃ (kq : Nat) (x12_10 : Int), v12 = .int .i64 x12_10 ∧ Aside0 (spec_AllowedPlaces.j1 kq l0 l1 a2 l3 l4 x12_10 = some (r1, r2)) ∧ Aside0 (kq ≤ kj6) ∧ Aside0 (Below w.heap.size w wc))
   case first =>
    have H := HC11.out
    clear HC11
    by_cases c12 : x33_6 = true
    case pos =>
     subst c12
     rw [if_pos rfl] at H
     have H' := Aside0.mk H
     clear H
     go_wp2
     go_meet
     case rel => exact ⟨_, (2), rs_, H', ⟨by have := HJ6.out; first | omega | exact Nat.le_refl _⟩, ⟨bl_ HB.out⟩⟩
    replace c12 := Bool.eq_false_iff.mpr c12
    subst c12
    rw [if_neg (show ¬ (false = true) by decide)] at H
    have H' := Aside0.mk H
    clear H
    go_wp2
    go_meet
    case rel => exact ⟨_, (t146), rs_, H', ⟨by have := HJ6.out; first | omega | exact Nat.le_refl _⟩, ⟨bl_ HB.out⟩⟩
   case rest =>
    clear HC11
    try clear c1
    try clear p2
    try clear c3
    try clear c4
    try clear c9
    try clear c9b0
    try clear c9b1
    try clear c10
    try clear c10b0
    try clear c10b1
    try clear c10b2
    try clear c12
    try clear p2
    obtain ⟨kq, x12_10, rfl, HA, HJ10, HB⟩ := hcut
    cases kq with
    | zero => exact absurd HA.out (by simp [spec_AllowedPlaces.j1])
    | succ kj10 =>
     have H := HA.out
     clear HA
     simp only [spec_AllowedPlaces.j1] at H
     have H' := Aside0.mk H
     clear H
     go_wp2
     go_loopg [12, 13] kj10 (fun kq v12 v13 w' => ∃ (x12_3 : Int) (x13_3 : Int), v12 = .int .i64 x12_3 ∧ v13 = .int .i64 x13_3 ∧ Aside0 (spec_AllowedPlaces.l0 kq l0 l1 a2 l3 l4 x12_3 x13_3 = some (r1, r2)) ∧ Aside0 (kq ≤ kj10) ∧ Aside0 (Below w.heap.size w w'))
     case atStart => exact ⟨(x12_10), (0), rs_, rs_, H', ⟨Nat.le_refl _⟩, ⟨bl_ HB.out⟩⟩
     case round =>
      clear H'
      try clear c1
      try clear p2
      try clear c3
      try clear c4
      try clear c9
      try clear c9b0
      try clear c9b1
      try clear c10
      try clear c10b0
      try clear c10b1
      try clear c10b2
      try clear c12
      try clear p2
      obtain ⟨x12_3, x13_3, rfl, rfl, HA, HK3, HB⟩ := hrel
      cases gk with
      | zero => exact absurd HA.out (by simp [spec_AllowedPlaces.l0])
      | succ k3 =>
       have H := HA.out
       clear HA
       simp only [spec_AllowedPlaces.l0] at H
       have HC13 := Aside0.mk H
       clear H
       go_upto_region 5 with (fail)
       go_cut [41] (fun v41 wc => ∃ (kq : Nat) (x41_12 : Bool), v41 = .bool x41_12 ∧ Aside0 (spec_AllowedPlaces.j3 kq l0 l1 a2 l3 l4 x12_3 x13_3 x41_12 = some (r1, r2)) ∧ Aside0 (kq ≤ k3) ∧ Aside0 (Below w.heap.size w wc))
       case first =>
        have H := HC13.out
        clear HC13
        by_cases c14 : x13_3 < (l3.length : Int)
        case neg =>
         rw [if_neg c14] at H
         have c14b0 := decide_eq_false c14
         clear c14
         (first | rw [c14b0] | (simp only [i64_w, i32_w]; rw [c14b0]) | skip)
         have H' := Aside0.mk H
         clear H
         go_wp2
         go_meet
         case rel => exact ⟨_, (false), rs_, H', ⟨by have := HJ6.out; have := HJ10.out; have := HK3.out; first | omega | exact Nat.le_refl _⟩, ⟨bl_ HB.out⟩⟩
        rw [if_pos c14] at H
        have c14b0 := decide_eq_true c14
        clear c14
        (first | rw [c14b0] | (simp only [i64_w, i32_w]; rw [c14b0]) | skip)
        have H' := Aside0.mk H
        clear H
        go_wp2
        go_meet
        case rel => exact ⟨_, ((x12_3 == 0)), rs_, H', ⟨by have := HJ6.out; have := HJ10.out; have := HK3.out; first | omega | exact Nat.le_refl _⟩, ⟨bl_ HB.out⟩⟩
       case rest =>
        clear HC13
        try clear c1
        try clear p2
        try clear c3
        try clear c4
        try clear c9
        try clear c9b0
        try clear c9b1
        try clear c10
        try clear c10b0
        try clear c10b1
        try clear c10b2
        try clear c12
        try clear c14
        try clear c14b0
        try clear p2
        obtain ⟨kq, x41_12, rfl, HA, HJ12, HB⟩ := hcut
        cases kq with
        | zero => exact absurd HA.out (by simp [spec_AllowedPlaces.j3])
        | succ kj12 =>
         have H := HA.out
         clear HA
         simp only [spec_AllowedPlaces.j3] at H
         by_cases c15 : x41_12 = true
         case pos =>
          subst c15
          rw [if_pos rfl] at H
          by_cases c16 : 0 ≤ x13_3
          case neg =>
           rw [if_neg c16] at H
           exact absurd H (by simp)
          rw [if_pos c16] at H
          have c16b0 := decide_eq_true c16
          clear c16
          by_cases c17 : x13_3 < (l3.length : Int)
          case neg =>
           rw [if_neg c17] at H
           exact absurd H (by simp)
          rw [if_pos c17] at H
          have c17b0 := decide_eq_true c17
          clear c17
          by_cases c18 : x13_3 < (l4.length : Int)
          case neg =>
           rw [if_neg c18] at H
           exact absurd H (by simp)
          rw [if_pos c18] at H
          have c18b0 := decide_eq_true c18
          clear c18
          replace H := Option.bind_eq_some_iff.mp H
          obtain ⟨t149, A190, H⟩ := H
          try dsimp only at H
          have A19 := Aside0.mk A190
          clear A190
          by_cases c20 : t149 = true
          case pos =>
           subst c20
           rw [if_pos rfl] at H
           have H' := Aside0.mk H
           clear H
           try go_wp2
           replace HB := Aside0.mk (below_drew1 HB.out)
           have p147 : 0 ≤ (x13_3 : Int) := od_
           have q147 : x13_3 < (l3.length : Int) := od_
           obtain ⟨ad147, e147, hx147_0⟩ := Kd.at_int HR3.out x13_3 p147 q147
           have hw147_0 := hx147_0
           cases e147
           replace hx147_0 := bc_ HB.out hx147_0
           replace p147 := eq_true p147
           replace q147 := eq_true q147
           have p148 : 0 ≤ (x13_3 : Int) := od_
           have q148 : x13_3 < (l4.length : Int) := od_
           obtain ⟨ad148, e148, hx148_0⟩ := Kd.at_int HR4.out x13_3 p148 q148
           have hw148_0 := hx148_0
           cases e148
           replace hx148_0 := bc_ HB.out hx148_0
           replace p148 := eq_true p148
           replace q148 := eq_true q148
           refine start_ (n := 10) (S := fun w' => w'.cell? (ad147.add (x13_3).toNat) = some (.int .i64 (rd l3 x13_3)) ∧ w'.cell? (ad148.add (x13_3).toNat) = some (.int .i64 (rd l4 x13_3))) (ds := []) #[f_,f_,f_,f_,f_,f_,f_,f_,f_,f_] (by kernel_rfl) rfl rfl ⟨(bc_ HB.out hw147_0 :), (bc_ HB.out hw148_0 :)⟩ (fun hHeld => ?_); refine with_tabW spec_AllowedPlaces.tab7 spec_AllowedPlaces.bits7 (fun HT_ HW_ => ?_)
           generalize wc.drew = w21 at HB hx147_0 hx148_0 hHeld ⊢
           refine pv_ 0 44 HT_.out ?_
           refine pv_ 1 45 HT_.out ?_
           refine pv_ 2 46 HT_.out ?_
           refine pv_ 4 48 HT_.out ?_
           refine pv_ 5 49 HT_.out ?_
           refine pv_ 6 50 HT_.out ?_
           refine tv2_ 3 47 HT_.out HW_.out hHeld ?_
           refine tk2_ 7 51 #[t_,t_,t_,t_,t_,t_,t_,t_,f_,f_] HT_.out HW_.out hHeld ?_
           refine one_ (i := 8) (N := some 52) #[t_,t_,t_,t_,t_,t_,t_,t_,t_,f_] rfl rfl (one_of HT_.out (by kernel_rfl)) (by decide) (fun K hK => ?_)
           refine goes_ Try.func110 (by kernel_rfl) rfl #[.int .i64 (rd l3 x13_3), .int .i64 (rd l4 x13_3)] (by rfl) rfl rfl ag_ ?_
           with_reducible refine (spec_l15Place.calls (rd l3 x13_3) (rd l4 x13_3) true _ A19.out).mono ?_
           rintro e w' ⟨rfl, ⟨nd, rfl⟩⟩
           refine ⟨_, rfl, ?_⟩
           refine hK.out _ _ ⟨(bc_ HB.out hw147_0 :), (bc_ HB.out hw148_0 :)⟩ (fun hHeld => ?_)
           clear hK K
           refine norm_ (a' := ?_) ?_ ?_
           rotate_left
           ·show Act.put _ (some 52) _ = _
            simp only [pz_]
            rfl
           refine pu_ 9 53 #[t_,t_,t_,t_,t_,t_,t_,t_,t_,t_] HT_.out ?_
           refine done_ (done_of HT_.out (by kernel_rfl)) ?_
           try go_wp2
           go_roundg kj12
           case measure => have := HJ6.out; have := HJ10.out; have := HK3.out; have := HJ12.out; omega
           case rel => exact ⟨(x12_3), (wrap64 (x13_3 + 1)), rs_, rs_, H', ⟨by have := HJ6.out; have := HJ10.out; have := HK3.out; have := HJ12.out; omega⟩, ⟨bl_ HB.out⟩⟩
          replace c20 := Bool.eq_false_iff.mpr c20
          subst c20
          rw [if_neg (show ¬ (false = true) by decide)] at H
          have H' := Aside0.mk H
          clear H
          try go_wp2
          replace HB := Aside0.mk (below_drew1 HB.out)
          have p147 : 0 ≤ (x13_3 : Int) := od_
          have q147 : x13_3 < (l3.length : Int) := od_
          obtain ⟨ad147, e147, hx147_0⟩ := Kd.at_int HR3.out x13_3 p147 q147
          have hw147_0 := hx147_0
          cases e147
          replace hx147_0 := bc_ HB.out hx147_0
          replace p147 := eq_true p147
          replace q147 := eq_true q147
          have p148 : 0 ≤ (x13_3 : Int) := od_
          have q148 : x13_3 < (l4.length : Int) := od_
          obtain ⟨ad148, e148, hx148_0⟩ := Kd.at_int HR4.out x13_3 p148 q148
          have hw148_0 := hx148_0
          cases e148
          replace hx148_0 := bc_ HB.out hx148_0
          replace p148 := eq_true p148
          replace q148 := eq_true q148
          refine start_ (n := 10) (S := fun w' => w'.cell? (ad147.add (x13_3).toNat) = some (.int .i64 (rd l3 x13_3)) ∧ w'.cell? (ad148.add (x13_3).toNat) = some (.int .i64 (rd l4 x13_3))) (ds := []) #[f_,f_,f_,f_,f_,f_,f_,f_,f_,f_] (by kernel_rfl) rfl rfl ⟨(bc_ HB.out hw147_0 :), (bc_ HB.out hw148_0 :)⟩ (fun hHeld => ?_); refine with_tabW spec_AllowedPlaces.tab7 spec_AllowedPlaces.bits7 (fun HT_ HW_ => ?_)
          generalize wc.drew = w22 at HB hx147_0 hx148_0 hHeld ⊢
          refine pv_ 0 44 HT_.out ?_
          refine pv_ 1 45 HT_.out ?_
          refine pv_ 2 46 HT_.out ?_
          refine pv_ 4 48 HT_.out ?_
          refine pv_ 5 49 HT_.out ?_
          refine pv_ 6 50 HT_.out ?_
          refine tv2_ 3 47 HT_.out HW_.out hHeld ?_
          refine tk2_ 7 51 #[t_,t_,t_,t_,t_,t_,t_,t_,f_,f_] HT_.out HW_.out hHeld ?_
          refine one_ (i := 8) (N := some 52) #[t_,t_,t_,t_,t_,t_,t_,t_,t_,f_] rfl rfl (one_of HT_.out (by kernel_rfl)) (by decide) (fun K hK => ?_)
          refine goes_ Try.func110 (by kernel_rfl) rfl #[.int .i64 (rd l3 x13_3), .int .i64 (rd l4 x13_3)] (by rfl) rfl rfl ag_ ?_
          with_reducible refine (spec_l15Place.calls (rd l3 x13_3) (rd l4 x13_3) false _ A19.out).mono ?_
          rintro e w' ⟨rfl, ⟨nd, rfl⟩⟩
          refine ⟨_, rfl, ?_⟩
          refine hK.out _ _ ⟨(bc_ HB.out hw147_0 :), (bc_ HB.out hw148_0 :)⟩ (fun hHeld => ?_)
          clear hK K
          refine norm_ (a' := ?_) ?_ ?_
          rotate_left
          ·show Act.put _ (some 52) _ = _
           simp only [pz_]
           rfl
          refine pu_ 9 53 #[t_,t_,t_,t_,t_,t_,t_,t_,t_,t_] HT_.out ?_
          refine done_ (done_of HT_.out (by kernel_rfl)) ?_
          try go_wp2
          go_roundg kj12
          case measure => have := HJ6.out; have := HJ10.out; have := HK3.out; have := HJ12.out; omega
          case rel => exact ⟨(2), (wrap64 (x13_3 + 1)), rs_, rs_, H', ⟨by have := HJ6.out; have := HJ10.out; have := HK3.out; have := HJ12.out; omega⟩, ⟨bl_ HB.out⟩⟩
         replace c15 := Bool.eq_false_iff.mpr c15
         subst c15
         rw [if_neg (show ¬ (false = true) by decide)] at H
         by_cases c23 : x12_3 = 0
         case neg =>
          rw [if_neg c23] at H
          have c23b0 := beq_eq_false_iff_ne.mpr c23
          have c23b1 := bne_iff_ne.mpr c23
          simp only [Option.some.injEq, Prod.mk.injEq] at H
          obtain ⟨rfl, rfl⟩ := H
          go_wp2
          go_ret2
          exact ⟨_, re_, by first | exact Kd.R_nil _ _ _ _ _ | exact Kd.N_nil _ _ _ _ _ | exact Kd.V_nil _ _ _ _ _ | exact Kd.Q_nil _ _ _ _ _ | exact Kd.S_nil _ _ _ _ _, bl_ HB.out⟩


         rw [if_pos c23] at H
         have c23b0 := beq_iff_eq.mpr c23
         have c23b1 := bne_eq_false_iff_eq.mpr c23
         clear c23
         obtain ⟨y150, hy150⟩ : ∃ y_ : List Int, y_ = (([] : List Int)) := ⟨_, rfl⟩
         replace H : (spec_AllowedPlaces.l1 kj12 l0 l1 a2 l3 l4 y150 0) = some (r1, r2) := by first | (rw [hy150]; with_reducible exact H) | (have H2_ := (Option.bind_some _ _).symm.trans H; rw [hy150]; with_reducible exact H2_) | (have H2_ := (Option.bind_some _ _).symm.trans H; with_reducible exact H2_) | with_reducible exact H | (rw [hy150]; exact H) | exact H
         have Ny150 := Aside0.mk hy150
         clear hy150
         have H' := Aside0.mk H
         clear H
         go_wp2_with (first | ((with_reducible refine gate_dst (N := 57) rfl ?_); (try (refine gate_guard (by rfl) ?_; dsimp only)); refine Kd.R_lit (Kd.int .i64) _ 2 ?hg (N := 57) ?hd (xs := ([] : List Int)) (inner := []) (ok := fun _ => True) (okp := fun _ => True) ?hr ?hp (fun _ hk => hk) trivial (Below.refl _ _) (Nat.le_refl _) (by simp) ?_; (case hd => rfl); (case hg => rfl); (case hr => first | (go_simp; done) | (go_simp; rfl)); (case hp => exact (Reps.none _ _)); intro v151 w24 ho25 hb hg_ hnew_; clear hg_ hnew_; (first | rw [← Ny150.out] at ho25 | (simp only [Int.reduceToNat] at ho25; rw [← Ny150.out] at ho25)); have HO152 := Aside0.mk (Kd.R_lower ho25 (below_size (bl_ HB.out))); replace HB := Aside0.mk (below_step (bl_ HB.out) hb); clear hb ho25))
         go_loopg [14, 15] kj12 (fun kq v14 v15 w' => ∃ (x14_5 : List Int) (x15_5 : Int), v15 = .int .i64 x15_5 ∧ Aside0 (spec_AllowedPlaces.l1 kq l0 l1 a2 l3 l4 x14_5 x15_5 = some (r1, r2)) ∧ Aside0 (kq ≤ kj12) ∧ Aside0 (Kd.R (Kd.int .i64) 2 w' w.heap.size (fun _ => True) v14 x14_5) ∧ Aside0 (Below w.heap.size w w'))
         case atStart => exact ⟨(y150), (0), rs_, H', ⟨Nat.le_refl _⟩, ⟨rk_ HO152.out⟩, ⟨bl_ HB.out⟩⟩
         case round =>
          clear H'
          try clear c1
          try clear p1
          try clear q1
          try clear hx1
          try clear c2
          try clear p2
          try clear c3
          try clear c4
          try clear p6
          try clear c9
          try clear c9b0
          try clear c9b1
          try clear c10
          try clear c10b0
          try clear c10b1
          try clear c10b2
          try clear c11
          try clear c12
          try clear c14
          try clear c14b0
          try clear p14
          try clear q14
          try clear hx14
          try clear c15
          try clear c16
          try clear c16b0
          try clear c17
          try clear c17b0
          try clear c18
          try clear c18b0
          try clear c20
          try clear c23
          try clear c23b0
          try clear c23b1
          try clear hx147_0
          try clear hx148_0
          try clear p147
          try clear p148
          try clear p2
          try clear q147
          try clear q148
          obtain ⟨x14_5, x15_5, rfl, HA, HK5, HO_14, HB⟩ := hrel
          cases gk with
          | zero => exact absurd HA.out (by simp [spec_AllowedPlaces.l1])
          | succ k5 =>
           have H := HA.out
           clear HA
           simp only [spec_AllowedPlaces.l1] at H
           by_cases c26 : x15_5 < (l3.length : Int)
           case neg =>
            rw [if_neg c26] at H
            have c26b0 := decide_eq_false c26
            clear c26
            simp only [Option.some.injEq, Prod.mk.injEq] at H
            obtain ⟨rfl, rfl⟩ := H
            go_wp2
            go_ret2
            exact ⟨_, re_, rk_ HO_14.out, bl_ HB.out⟩
           rw [if_pos c26] at H
           have c26b0 := decide_eq_true c26
           clear c26
           by_cases c27 : 0 ≤ x15_5
           case neg =>
            rw [if_neg c27] at H
            exact absurd H (by simp)
           rw [if_pos c27] at H
           have c27b0 := decide_eq_true c27
           clear c27
           by_cases c28 : x15_5 < (l4.length : Int)
           case neg =>
            rw [if_neg c28] at H
            exact absurd H (by simp)
           rw [if_pos c28] at H
           have c28b0 := decide_eq_true c28
           clear c28
           replace H := Option.bind_eq_some_iff.mp H
           obtain ⟨t155, A290, H⟩ := H
           try dsimp only at H
           have A29 := Aside0.mk A290
           clear A290
           by_cases c30 : (t155.length : Int) = 0
           case neg =>
            rw [if_neg c30] at H
            have c30b0 := beq_eq_false_iff_ne.mpr c30
            have c30b1 := bne_iff_ne.mpr c30
            have c30b2 : ¬ (t155 = []) := fun h_ => c30 (by rw [h_]; rfl)
            have H' := Aside0.mk H
            clear H
            try go_wp2
            replace HO_14 := Aside0.mk (Kd.R_drew HO_14.out)
            replace HB := Aside0.mk (below_drew1 HB.out)
            have p153 : 0 ≤ (x15_5 : Int) := od_
            have q153 : x15_5 < (l3.length : Int) := od_
            obtain ⟨ad153, e153, hx153_0⟩ := Kd.at_int HR3.out x15_5 p153 q153
            have hw153_0 := hx153_0
            cases e153
            replace hx153_0 := bc_ HB.out hx153_0
            replace p153 := eq_true p153
            replace q153 := eq_true q153
            have p154 : 0 ≤ (x15_5 : Int) := od_
            have q154 : x15_5 < (l4.length : Int) := od_
            obtain ⟨ad154, e154, hx154_0⟩ := Kd.at_int HR4.out x15_5 p154 q154
            have hw154_0 := hx154_0
            cases e154
            replace hx154_0 := bc_ HB.out hx154_0
            replace p154 := eq_true p154
            replace q154 := eq_true q154
            refine start_ (n := 14) (S := fun w' => w'.cell? (ad153.add (x15_5).toNat) = some (.int .i64 (rd l3 x15_5)) ∧ w'.cell? (ad154.add (x15_5).toNat) = some (.int .i64 (rd l4 x15_5))) (ds := []) #[f_,f_,f_,f_,f_,f_,f_,f_,f_,f_,f_,f_,f_,f_] (by kernel_rfl) rfl rfl ⟨(bc_ HB.out hw153_0 :), (bc_ HB.out hw154_0 :)⟩ (fun hHeld => ?_); refine with_tabW spec_AllowedPlaces.tab15 spec_AllowedPlaces.bits15 (fun HT_ HW_ => ?_)
            generalize wr.drew = w36 at HO_14 HB hx153_0 hx154_0 hHeld ⊢
            refine pv_ 0 64 HT_.out ?_
            refine pv_ 1 65 HT_.out ?_
            refine pv_ 2 66 HT_.out ?_
            refine pv_ 3 67 HT_.out ?_
            refine pv_ 4 68 HT_.out ?_
            refine pv_ 5 69 HT_.out ?_
            refine pv_ 7 71 HT_.out ?_
            refine pv_ 8 72 HT_.out ?_
            refine pv_ 9 73 HT_.out ?_
            refine tv2_ 6 70 HT_.out HW_.out hHeld ?_
            refine tk2_ 10 74 #[t_,t_,t_,t_,t_,t_,t_,t_,t_,t_,t_,f_,f_,f_] HT_.out HW_.out hHeld ?_
            refine one_ (i := 11) (N := some 75) #[t_,t_,t_,t_,t_,t_,t_,t_,t_,t_,t_,t_,f_,f_] rfl rfl (one_of HT_.out (by kernel_rfl)) (by decide) (fun K hK => ?_)
            refine goes_ Try.func111 (by kernel_rfl) rfl #[.slice A0 l0.length c0, .slice A1 l1.length c1, .int .i64 a2, .int .i64 (rd l3 x15_5), .int .i64 (rd l4 x15_5)] (by rfl) rfl rfl ag_ ?_
            with_reducible refine (spec_l16Against.calls k5 _ _ l0 _ _ l1 a2 (rd l3 x15_5) (rd l4 x15_5) t155 _ ?side1 ?side2 ?side3 ?side4 A29.out).mono ?_
            (case side1 => exact r7_ HR0.out HB.out)
            (case side2 => exact HC0.out)
            (case side3 => exact r7_ HR1.out HB.out)
            (case side4 => exact HC1.out)
            rintro e w37 ⟨v156, rfl, ho0, hb⟩
            refine ⟨_, rfl, ?_⟩
            have HO157 := Aside0.mk (Kd.R_lower (Kd.R_new' ho0 (Kd.R_lt (rk_ HO_14.out))) (below_size (bl_ HB.out)))
            replace HO_14 := Aside0.mk (Kd.R_elder' (rk_ HO_14.out) (Kd.R_base ho0) hb)
            replace HB := Aside0.mk (below_step (bl_ HB.out) hb)
            (try clear hb)
            (try clear hb2)
            (try clear hk)
            (try clear hi)
            (try clear ho0)
            obtain ⟨Ao38, co38, eo38⟩ := Kd.R_slice HO157.out
            (first | subst eo38 | (injection eo38 with f1_ f2_ f3_; have f4_ := f1_.symm; have f5_ := f3_.symm; clear f1_ f2_ f3_; subst f4_; subst f5_))
            refine hK.out _ _ ⟨(bc_ HB.out hw153_0 :), (bc_ HB.out hw154_0 :)⟩ (fun hHeld => ?_)
            clear hK K
            refine norm_ (a' := ?_) ?_ ?_
            rotate_left
            ·show Act.put _ (some 75) _ = _
             simp only [pz_]
             rfl
            refine pv_ 12 76 HT_.out ?_
            refine pu_ 13 77 #[t_,t_,t_,t_,t_,t_,t_,t_,t_,t_,t_,t_,t_,t_] HT_.out ?_
            refine done_ (done_of HT_.out (by kernel_rfl)) ?_
            try go_wp2
            go_roundg k5
            case measure => have := HJ6.out; have := HJ10.out; have := HK3.out; have := HJ12.out; have := HK5.out; omega
            case rel => exact ⟨(x14_5), (wrap64 (x15_5 + 1)), rs_, H', ⟨by have := HJ6.out; have := HJ10.out; have := HK3.out; have := HJ12.out; have := HK5.out; omega⟩, ⟨rk_ (Kd.R_mono HO_14.out (fun _ hk => trivial))⟩, ⟨bl_ HB.out⟩⟩
           rw [if_pos c30] at H
           have c30b0 := beq_iff_eq.mpr c30
           have c30b1 := bne_eq_false_iff_eq.mpr c30
           clear c30
           by_cases c31 : x14_5.length < 17592186044416
           case neg =>
            rw [if_neg c31] at H
            exact absurd H (by simp)
           rw [if_pos c31] at H
           have LMc31 := Aside0.mk c31
           clear c31
           obtain ⟨y158, hy158⟩ : ∃ y_ : List Int, y_ = (x14_5 ++ [x15_5]) := ⟨_, rfl⟩
           replace H : (spec_AllowedPlaces.l1 k5 l0 l1 a2 l3 l4 y158 (wrap64 (x15_5 + 1))) = some (r1, r2) := by first | (rw [hy158]; with_reducible exact H) | (have H2_ := (Option.bind_some _ _).symm.trans H; rw [hy158]; with_reducible exact H2_) | (have H2_ := (Option.bind_some _ _).symm.trans H; with_reducible exact H2_) | with_reducible exact H | (rw [hy158]; exact H) | exact H
           have Ny158 := Aside0.mk hy158
           clear hy158
           have H' := Aside0.mk H
           clear H
           try go_wp2
           replace HO_14 := Aside0.mk (Kd.R_drew HO_14.out)
           replace HB := Aside0.mk (below_drew1 HB.out)
           have p153 : 0 ≤ (x15_5 : Int) := od_
           have q153 : x15_5 < (l3.length : Int) := od_
           obtain ⟨ad153, e153, hx153_0⟩ := Kd.at_int HR3.out x15_5 p153 q153
           have hw153_0 := hx153_0
           cases e153
           replace hx153_0 := bc_ HB.out hx153_0
           replace p153 := eq_true p153
           replace q153 := eq_true q153
           have p154 : 0 ≤ (x15_5 : Int) := od_
           have q154 : x15_5 < (l4.length : Int) := od_
           obtain ⟨ad154, e154, hx154_0⟩ := Kd.at_int HR4.out x15_5 p154 q154
           have hw154_0 := hx154_0
           cases e154
           replace hx154_0 := bc_ HB.out hx154_0
           replace p154 := eq_true p154
           replace q154 := eq_true q154
           refine start_ (n := 14) (S := fun w' => w'.cell? (ad153.add (x15_5).toNat) = some (.int .i64 (rd l3 x15_5)) ∧ w'.cell? (ad154.add (x15_5).toNat) = some (.int .i64 (rd l4 x15_5))) (ds := []) #[f_,f_,f_,f_,f_,f_,f_,f_,f_,f_,f_,f_,f_,f_] (by kernel_rfl) rfl rfl ⟨(bc_ HB.out hw153_0 :), (bc_ HB.out hw154_0 :)⟩ (fun hHeld => ?_); refine with_tabW spec_AllowedPlaces.tab15 spec_AllowedPlaces.bits15 (fun HT_ HW_ => ?_)
           generalize wr.drew = w32 at HO_14 HB hx153_0 hx154_0 hHeld ⊢
           refine pv_ 0 64 HT_.out ?_
           refine pv_ 1 65 HT_.out ?_
           refine pv_ 2 66 HT_.out ?_
           refine pv_ 3 67 HT_.out ?_
           refine pv_ 4 68 HT_.out ?_
           refine pv_ 5 69 HT_.out ?_
           refine pv_ 7 71 HT_.out ?_
           refine pv_ 8 72 HT_.out ?_
           refine pv_ 9 73 HT_.out ?_
           refine tv2_ 6 70 HT_.out HW_.out hHeld ?_
           refine tk2_ 10 74 #[t_,t_,t_,t_,t_,t_,t_,t_,t_,t_,t_,f_,f_,f_] HT_.out HW_.out hHeld ?_
           refine one_ (i := 11) (N := some 75) #[t_,t_,t_,t_,t_,t_,t_,t_,t_,t_,t_,t_,f_,f_] rfl rfl (one_of HT_.out (by kernel_rfl)) (by decide) (fun K hK => ?_)
           refine goes_ Try.func111 (by kernel_rfl) rfl #[.slice A0 l0.length c0, .slice A1 l1.length c1, .int .i64 a2, .int .i64 (rd l3 x15_5), .int .i64 (rd l4 x15_5)] (by rfl) rfl rfl ag_ ?_
           with_reducible refine (spec_l16Against.calls k5 _ _ l0 _ _ l1 a2 (rd l3 x15_5) (rd l4 x15_5) t155 _ ?side1 ?side2 ?side3 ?side4 A29.out).mono ?_
           (case side1 => exact r7_ HR0.out HB.out)
           (case side2 => exact HC0.out)
           (case side3 => exact r7_ HR1.out HB.out)
           (case side4 => exact HC1.out)
           rintro e w33 ⟨v156, rfl, ho0, hb⟩
           refine ⟨_, rfl, ?_⟩
           have HO157 := Aside0.mk (Kd.R_lower (Kd.R_new' ho0 (Kd.R_lt (rk_ HO_14.out))) (below_size (bl_ HB.out)))
           replace HO_14 := Aside0.mk (Kd.R_elder' (rk_ HO_14.out) (Kd.R_base ho0) hb)
           replace HB := Aside0.mk (below_step (bl_ HB.out) hb)
           (try clear hb)
           (try clear hb2)
           (try clear hk)
           (try clear hi)
           (try clear ho0)
           obtain ⟨Ao34, co34, eo34⟩ := Kd.R_slice HO157.out
           (first | subst eo34 | (injection eo34 with f1_ f2_ f3_; have f4_ := f1_.symm; have f5_ := f3_.symm; clear f1_ f2_ f3_; subst f4_; subst f5_))
           refine hK.out _ _ ⟨(bc_ HB.out hw153_0 :), (bc_ HB.out hw154_0 :)⟩ (fun hHeld => ?_)
           clear hK K
           refine norm_ (a' := ?_) ?_ ?_
           rotate_left
           ·show Act.put _ (some 75) _ = _
            simp only [pz_]
            rfl
           refine pv_ 12 76 HT_.out ?_
           refine pu_ 13 77 #[t_,t_,t_,t_,t_,t_,t_,t_,t_,t_,t_,t_,t_,t_] HT_.out ?_
           refine done_ (done_of HT_.out (by kernel_rfl)) ?_
           try go_wp2_with (first | ((with_reducible refine gate_builtin (b := .append) (xs := #[.tmp 78, .tmp 80]) rfl ?_); (try (refine gate_guard (by rfl) ?_; dsimp only)); at_builtin; refine Kd.R_append (Kd.int .i64) (w0 := w) w.heap.size rfl (.tmp 78) (.tmp 80) 24 2 (.int .i64 0) 8 rfl Try.underlying24 info2 rfl (by decide) (by omega) u14 x14_5 x15_5 [.int .i64 x15_5] (fun k_ => some k_ ≠ (.slice Ao34 t155.length co34 : Value).ownBlock) (fun _ => False) rfl rfl ?aP (fun _ hk => hk.elim) ?aF ?aO ?aB ?aS ?aL ?_; (case aP => exact rfl); (case aB => exact (bl_ HB.out)); (case aF => exact (fun k_ hk => Kd.fresh' (Kd.R_lt (rk_ HO157.out)) k_ hk)); (case aO => exact (rk_ (Kd.R_mono HO_14.out (fun _ hk => hk.2)))); (case aS => exact (below_size (bl_ HB.out))); (case aL => have := LMc31.out; omega); intro v159 w35 ho hb hg hat; rw [← Ny158.out] at ho; have n0_ := Aside0.mk (Kd.R_after (ok := (fun _ => True)) (rk_ HO157.out) hg hat); have n1_ := Aside0.mk (hb); have n2_ := Aside0.mk (ho); clear HO157; clear HB; clear HO_14; have HO157 := n0_; have HB := n1_; have HO160 := n2_; clear n0_ n1_ n2_; clear ho hb hg hat))
           go_roundg k5
           case measure => have := HJ6.out; have := HJ10.out; have := HK3.out; have := HJ12.out; have := HK5.out; omega
           case rel => exact ⟨(y158), (wrap64 (x15_5 + 1)), rs_, H', ⟨by have := HJ6.out; have := HJ10.out; have := HK3.out; have := HJ12.out; have := HK5.out; omega⟩, ⟨rk_ (Kd.R_mono HO160.out (fun _ hk => trivial))⟩, ⟨bl_ HB.out⟩⟩
def impl_within.f (a0 : Int) (a1 : Int) (a2 : Int) : Option (Bool) := if a1 ≤ a0 then (some (decide (a0 ≤ a2))) else (some false)
set_option maxHeartbeats 8000000 in
set_option maxRecDepth 100000 in
theorem impl_within.calls (a0 : Int) (a1 : Int) (a2 : Int) (r : Bool) (w : World) (h : impl_within.f a0 a1 a2 = some r) :
    Calls Try.prog 130 #[.int .i64 a0, .int .i64 a1, .int .i64 a2] w fun e w' => e = .returned (.bool r) ∧ Drawn0 w w' := by
  have H : (if a1 ≤ a0 then (some (decide (a0 ≤ a2))) else (some false)) = some r := h
  clear h
  by_cases c4 : a1 ≤ a0
  · rw [if_pos c4] at H
    have c4b0 := decide_eq_true c4
    clear c4
    obtain rfl := Option.some.inj H
    go_enter Try.func130, Try.ntmps130
    go_wp2
    go_ret
    exact ⟨by first | rfl | (simp; done) | (simp [*]; done), by repeat (first | exact Drawn0.refl _ | apply Drawn0.step)⟩
  · rw [if_neg c4] at H
    have c4b0 := decide_eq_false c4
    clear c4
    obtain rfl := Option.some.inj H
    go_enter Try.func130, Try.ntmps130
    go_wp2
    go_ret
    exact ⟨by first | rfl | (simp; done) | (simp [*]; done), by repeat (first | exact Drawn0.refl _ | apply Drawn0.step)⟩
def impl_isCalibre.f (a0 : Int) : Option (Bool) := (impl_within.f a0 20 300).bind fun t161 => (some t161)
set_option maxHeartbeats 8000000 in
set_option maxRecDepth 100000 in
theorem impl_isCalibre.calls (a0 : Int) (r : Bool) (w : World) (h : impl_isCalibre.f a0 = some r) :
    Calls Try.prog 118 #[.int .i64 a0] w fun e w' => e = .returned (.bool r) ∧ Drawn0 w w' := by
  have H : ((impl_within.f a0 20 300).bind fun t161 => (some t161)) = some r := h
  clear h
  replace H := Option.bind_eq_some_iff.mp H
  obtain ⟨t161, A20, H⟩ := H
  try dsimp only at H
  have A2 := Aside0.mk A20
  clear A20
  obtain rfl := Option.some.inj H
  go_enter Try.func118, Try.ntmps118
  go_wp2_with (first | ((with_reducible refine gate_callee (f := 130) rfl ?_); refine goesL_ (some 4) rfl rfl Try.func130 (by kernel_rfl) rfl #[.int .i64 a0, .int .i64 20, .int .i64 300] rfl ag_ ?_; (with_reducible refine (impl_within.calls a0 20 300 t161 _ A2.out).mono ?_); rintro e w' ⟨rfl, ⟨nd, rfl⟩⟩; refine ⟨_, rfl, ?_⟩))
  go_ret
  exact ⟨by first | rfl | (simp; done) | (simp [*]; done), by repeat (first | exact Drawn0.refl _ | apply Drawn0.step)⟩
def impl_isKind.f (a0 : Int) : Option (Bool) := (impl_within.f a0 0 3).bind fun t162 => (some t162)
set_option maxHeartbeats 8000000 in
set_option maxRecDepth 100000 in
theorem impl_isKind.calls (a0 : Int) (r : Bool) (w : World) (h : impl_isKind.f a0 = some r) :
    Calls Try.prog 153 #[.int .i64 a0] w fun e w' => e = .returned (.bool r) ∧ Drawn0 w w' := by
  have H : ((impl_within.f a0 0 3).bind fun t162 => (some t162)) = some r := h
  clear h
  replace H := Option.bind_eq_some_iff.mp H
  obtain ⟨t162, A20, H⟩ := H
  try dsimp only at H
  have A2 := Aside0.mk A20
  clear A20
  obtain rfl := Option.some.inj H
  go_enter Try.func153, Try.ntmps153
  go_wp2_with (first | ((with_reducible refine gate_callee (f := 130) rfl ?_); refine goesL_ (some 4) rfl rfl Try.func130 (by kernel_rfl) rfl #[.int .i64 a0, .int .i64 0, .int .i64 3] rfl ag_ ?_; (with_reducible refine (impl_within.calls a0 0 3 t162 _ A2.out).mono ?_); rintro e w' ⟨rfl, ⟨nd, rfl⟩⟩; refine ⟨_, rfl, ?_⟩))
  go_ret
  exact ⟨by first | rfl | (simp; done) | (simp [*]; done), by repeat (first | exact Drawn0.refl _ | apply Drawn0.step)⟩
mutual
def impl_IsTable.l0 : Nat → List (S81) → List (S81) → Int → Int → Option (Bool)
 | 0, _, _, _, _ => none
 | k + 1, x0, x9, x10, x11 => if x11 < x10 then (if 0 ≤ x11 then (if x11 < (x9.length : Int) then ((impl_isKind.f ((rd_T81 x9 x11).f0)).bind fun t165 => (if t165 = true then ((impl_isCalibre.f ((rd_T81 x9 x11).f1)).bind fun t166 => (if t166 = true then ((impl_within.f ((rd_T81 x9 x11).f2) 0 10000).bind fun t167 => (impl_IsTable.j1 k x0 x11 x9 x10 x11 (!t167) ((rd_T81 x9 x11).f0) ((rd_T81 x9 x11).f1) ((rd_T81 x9 x11).f2))) else (impl_IsTable.j1 k x0 x11 x9 x10 x11 true ((rd_T81 x9 x11).f0) ((rd_T81 x9 x11).f1) ((rd_T81 x9 x11).f2)))) else (impl_IsTable.j1 k x0 x11 x9 x10 x11 true ((rd_T81 x9 x11).f0) ((rd_T81 x9 x11).f1) ((rd_T81 x9 x11).f2)))) else (none)) else (none)) else (some true)
def impl_IsTable.j1 : Nat → List (S81) → Int → List (S81) → Int → Int → Bool → Int → Int → Int → Option (Bool)
 | 0, _, _, _, _, _, _, _, _, _ => none
 | k + 1, x0, x3, x9, x10, x11, x31, x165000, x165001, x165002 => if x31 = true then (some false) else (if x3 = 0 then (impl_IsTable.l0 k x0 x9 x10 (wrap64 (x11 + 1))) else (if 0 ≤ (wrap64 (x3 - 1)) then (if (wrap64 (x3 - 1)) < (x0.length : Int) then (if ((rd_T81 x0 (wrap64 (x3 - 1))).f0) > x165000 then (some false) else (if ((rd_T81 x0 (wrap64 (x3 - 1))).f0) = x165000 then (if ((rd_T81 x0 (wrap64 (x3 - 1))).f1) ≥ x165001 then (some false) else (if ((rd_T81 x0 (wrap64 (x3 - 1))).f2) > x165002 then (some false) else (impl_IsTable.l0 k x0 x9 x10 (wrap64 (x11 + 1))))) else (impl_IsTable.l0 k x0 x9 x10 (wrap64 (x11 + 1))))) else (none)) else (none)))
end
def impl_IsTable.f (k : Nat) (l0 : List (S81)) : Option (Bool) := if (l0.length : Int) > 12 then (some false) else (impl_IsTable.l0 k l0 l0 (l0.length : Int) 0)
set_option maxHeartbeats 8000000 in
set_option maxRecDepth 100000 in
theorem impl_IsTable.calls (k : Nat) (A0 : Option Addr) (c0 : Nat) (l0 : List (S81)) (r : Bool) (w : World) (hr0 : Kd.C k81 w A0 l0.length l0) (hc0 : l0.length ≤ c0) (h : impl_IsTable.f k l0 = some r) :
  Calls Try.prog 54 #[.slice A0 l0.length c0] w fun e w' => e = .returned (.bool r) ∧ Below w.heap.size w w' := by
 have hu81 := Try.underlying81
 have HR0 := Aside0.mk hr0
 have HC0 := Aside0.mk hc0
 clear hr0 hc0
 have HB := Aside0.mk (Below.refl w.heap.size w)
 have H : (if (l0.length : Int) > 12 then (some false) else (impl_IsTable.l0 k l0 l0 (l0.length : Int) 0)) = some r := h
 clear h
 by_cases c2 : (l0.length : Int) > 12
 case pos =>
  rw [if_pos c2] at H
  have c2b0 : decide (12 < (l0.length : Int)) = true := decide_eq_true c2
  have c2b1 : decide (12 < l0.length) = true := decide_eq_true (by omega)
  clear c2
  obtain rfl := Option.some.inj H
  go_enter Try.func54, Try.ntmps54
  go_wp2
  go_ret
  exact ⟨(re_), bl_ HB.out⟩
 rw [if_neg c2] at H
 have c2b0 : decide (12 < (l0.length : Int)) = false := decide_eq_false c2
 have c2b1 : decide (12 < l0.length) = false := decide_eq_false (by omega)
 clear c2
 have H' := Aside0.mk H
 clear H
 go_enter Try.func54, Try.ntmps54
 go_wp2
 go_loopg [11] k (fun kq v11 w' => ∃ (x11_1 : Int), v11 = .int .i64 x11_1 ∧ Aside0 (impl_IsTable.l0 kq l0 l0 (l0.length : Int) x11_1 = some r) ∧ Aside0 (kq ≤ k) ∧ Aside0 (Below w.heap.size w w'))
 case atStart => exact ⟨(0), rs_, H', ⟨Nat.le_refl _⟩, ⟨bl_ HB.out⟩⟩
 case round =>
  clear H'
  try clear c2
  try clear c2b0
  try clear c2b1
  try clear p2
  obtain ⟨x11_1, rfl, HA, HK1, HB⟩ := hrel
  cases gk with
  | zero => exact absurd HA.out (by simp [impl_IsTable.l0])
  | succ k1 =>
   have H := HA.out
   clear HA
   simp only [impl_IsTable.l0] at H
   by_cases c3 : x11_1 < (l0.length : Int)
   case neg =>
    rw [if_neg c3] at H
    have c3b0 := decide_eq_false c3
    clear c3
    obtain rfl := Option.some.inj H
    go_wp2
    go_ret
    exact ⟨(re_), bl_ HB.out⟩


   rw [if_pos c3] at H
   have c3b0 := decide_eq_true c3
   clear c3
   by_cases c4 : 0 ≤ x11_1
   case neg =>
    rw [if_neg c4] at H
    exact absurd H (by simp)
   rw [if_pos c4] at H
   have c4b0 := decide_eq_true c4
   clear c4
   by_cases c5 : x11_1 < (l0.length : Int)
   case neg =>
    rw [if_neg c5] at H
    exact absurd H (by simp)
   rw [if_pos c5] at H
   have c5b0 := decide_eq_true c5
   clear c5
   have HC6 := Aside0.mk H
   clear H
   have p163 : 0 ≤ (x11_1 : Int) := od_
   have q163 : x11_1 < (l0.length : Int) := od_
   obtain ⟨ad163, e163, hx163_0, hx163_1, hx163_2⟩ := at_T81 HR0.out x11_1 p163 q163
   cases e163
   replace hx163_0 := bc_ HB.out hx163_0
   replace hx163_1 := bc_ HB.out hx163_1
   replace hx163_2 := bc_ HB.out hx163_2
   replace p163 := eq_true p163
   replace q163 := eq_true q163
   go_upto_region 6 with (first | ((with_reducible refine gate_dst (N := 4) rfl ?_); refine box_event ?hg (N := 4) ?hd (cs := #[.int .i64 0, .int .i64 0, .int .i64 0]) (t := 81) ?hr ?_; (case hd => rfl); (case hg => rfl); (case hr => first | (go_simp; done) | (go_simp; rfl)); intro gb164 hg w7 hbox hb; have BK164 := Aside0.mk (hbox); have GW164 := Aside0.mk ((by rw [hg]; exact (below_size (bl_ HB.out)) : w.heap.size ≤ gb164)); have GE164 := Aside0.mk ((by rw [hg]; exact (below_size (bl_ HB.out)) : w.heap.size ≤ gb164)); replace HB := Aside0.mk (below_step (bl_ HB.out) hb); clear hb hbox hg; obtain ⟨hcz8_0, hcz8_1, hcz8_2, hfz8_0, hfz8_1, hfz8_2⟩ := bk3_ BK164.out))
   (try simp only [Act.put, List.setIfInBounds_toArray, List.set_cons_zero, List.set_cons_succ])
   go_cut [31] (fun v31 wc => ∃ (kq : Nat) (x31_5 : Bool), v31 = .bool x31_5 ∧ Aside0 (impl_IsTable.j1 kq l0 x11_1 l0 (l0.length : Int) x11_1 x31_5 ((rd_T81 l0 x11_1).f0) ((rd_T81 l0 x11_1).f1) ((rd_T81 l0 x11_1).f2) = some r) ∧ Aside0 (kq ≤ k1) ∧ Aside0 (wc.heap[gb164]? = some (.cells #[.int .i64 ((rd_T81 l0 x11_1).f0), .int .i64 ((rd_T81 l0 x11_1).f1), .int .i64 ((rd_T81 l0 x11_1).f2)] 81 (0, 0))) ∧ Aside0 (Below w.heap.size w wc))
   case first =>
    have H := HC6.out
    clear HC6
    replace H := Option.bind_eq_some_iff.mp H
    obtain ⟨t165, A90, H⟩ := H
    try dsimp only at H
    have A9 := Aside0.mk A90
    clear A90
    by_cases c10 : t165 = true
    case neg =>
     replace c10 := Bool.eq_false_iff.mpr c10
     subst c10
     rw [if_neg (show ¬ (false = true) by decide)] at H
     have H' := Aside0.mk H
     clear H
     obtain ⟨hcz16_0, hcz16_1, hcz16_2, hfz16_0, hfz16_1, hfz16_2⟩ := bk3_ BK164.out
     go_wp2_with (first | ((with_reducible refine gate_callee (f := 153) rfl ?_); refine goesL_ (some 18) rfl rfl Try.func153 (by kernel_rfl) rfl #[.int .i64 ((rd_T81 l0 x11_1).f0)] rfl ag_ ?_; (with_reducible refine (impl_isKind.calls ((rd_T81 l0 x11_1).f0) false _ A9.out).mono ?_); rintro e w' ⟨rfl, ⟨nd, rfl⟩⟩; refine ⟨_, rfl, ?_⟩))
     go_meet
     case rel => exact ⟨_, (true), rs_, H', ⟨by have := HK1.out; first | omega | exact Nat.le_refl _⟩, ⟨by (with_reducible repeat (first | refine blk_drewN ?_ _ | refine blk_drew ?_ | refine blk_alloc ?_ _)); exact bp3_ BK164.out⟩, ⟨r3_ HB.out GE164.out⟩⟩
    subst c10
    rw [if_pos rfl] at H
    replace H := Option.bind_eq_some_iff.mp H
    obtain ⟨t166, A110, H⟩ := H
    try dsimp only at H
    have A11 := Aside0.mk A110
    clear A110
    by_cases c12 : t166 = true
    case neg =>
     replace c12 := Bool.eq_false_iff.mpr c12
     subst c12
     rw [if_neg (show ¬ (false = true) by decide)] at H
     have H' := Aside0.mk H
     clear H
     obtain ⟨hcz15_0, hcz15_1, hcz15_2, hfz15_0, hfz15_1, hfz15_2⟩ := bk3_ BK164.out
     go_wp2_with (first | ((with_reducible refine gate_callee (f := 153) rfl ?_); refine goesL_ (some 18) rfl rfl Try.func153 (by kernel_rfl) rfl #[.int .i64 ((rd_T81 l0 x11_1).f0)] rfl ag_ ?_; (with_reducible refine (impl_isKind.calls ((rd_T81 l0 x11_1).f0) true _ A9.out).mono ?_); rintro e w' ⟨rfl, ⟨nd, rfl⟩⟩; refine ⟨_, rfl, ?_⟩) | (go_at_call 118; (with_reducible refine (impl_isCalibre.calls ((rd_T81 l0 x11_1).f1) false _ A11.out).mono ?_); rintro e w' ⟨rfl, ⟨nd, rfl⟩⟩))
     go_meet
     case rel => exact ⟨_, (true), rs_, H', ⟨by have := HK1.out; first | omega | exact Nat.le_refl _⟩, ⟨by (with_reducible repeat (first | refine blk_drewN ?_ _ | refine blk_drew ?_ | refine blk_alloc ?_ _)); exact bp3_ BK164.out⟩, ⟨r3_ HB.out GE164.out⟩⟩
    subst c12
    rw [if_pos rfl] at H
    replace H := Option.bind_eq_some_iff.mp H
    obtain ⟨t167, A130, H⟩ := H
    try dsimp only at H
    have A13 := Aside0.mk A130
    clear A130
    have H' := Aside0.mk H
    clear H
    obtain ⟨hcz14_0, hcz14_1, hcz14_2, hfz14_0, hfz14_1, hfz14_2⟩ := bk3_ BK164.out
    go_wp2_with (first | ((with_reducible refine gate_callee (f := 153) rfl ?_); refine goesL_ (some 18) rfl rfl Try.func153 (by kernel_rfl) rfl #[.int .i64 ((rd_T81 l0 x11_1).f0)] rfl ag_ ?_; (with_reducible refine (impl_isKind.calls ((rd_T81 l0 x11_1).f0) true _ A9.out).mono ?_); rintro e w' ⟨rfl, ⟨nd, rfl⟩⟩; refine ⟨_, rfl, ?_⟩) | (go_at_call 118; (with_reducible refine (impl_isCalibre.calls ((rd_T81 l0 x11_1).f1) true _ A11.out).mono ?_); rintro e w' ⟨rfl, ⟨nd, rfl⟩⟩) | (go_at_call 130; (with_reducible refine (impl_within.calls ((rd_T81 l0 x11_1).f2) 0 10000 t167 _ A13.out).mono ?_); rintro e w' ⟨rfl, ⟨nd, rfl⟩⟩))
    go_meet
    case rel => exact ⟨_, (!t167), rs_, H', ⟨by have := HK1.out; first | omega | exact Nat.le_refl _⟩, ⟨by (with_reducible repeat (first | refine blk_drewN ?_ _ | refine blk_drew ?_ | refine blk_alloc ?_ _)); exact bp3_ BK164.out⟩, ⟨r3_ HB.out GE164.out⟩⟩
   case rest =>
    clear HC6
    try clear c1
    try clear p1
    try clear q1
    try clear hx1
    try clear c2
    try clear c2b0
    try clear c2b1
    try clear p2
    try clear c3
    try clear c3b0
    try clear c4
    try clear c4b0
    try clear c5
    try clear c5b0
    try clear c10
    try clear c12
    try clear c15
    try clear p16
    try clear q16
    try clear hx16
    try clear hcz14_0
    try clear hcz14_1
    try clear hcz14_2
    try clear hcz15_0
    try clear hcz15_1
    try clear hcz15_2
    try clear hcz16_0
    try clear hcz16_1
    try clear hcz16_2
    try clear hcz8_0
    try clear hcz8_1
    try clear hcz8_2
    try clear hfz14_0
    try clear hfz14_1
    try clear hfz14_2
    try clear hfz15_0
    try clear hfz15_1
    try clear hfz15_2
    try clear hfz16_0
    try clear hfz16_1
    try clear hfz16_2
    try clear hfz8_0
    try clear hfz8_1
    try clear hfz8_2
    try clear hx163_0
    try clear hx163_1
    try clear hx163_2
    try clear p163
    try clear p2
    try clear q163
    obtain ⟨kq, x31_5, rfl, HA, HJ5, BK164, HB⟩ := hcut
    cases kq with
    | zero => exact absurd HA.out (by simp [impl_IsTable.j1])
    | succ kj5 =>
     have H := HA.out
     clear HA
     simp only [impl_IsTable.j1] at H
     by_cases c17 : x31_5 = true
     case pos =>
      subst c17
      rw [if_pos rfl] at H
      obtain rfl := Option.some.inj H
      go_wp2
      go_ret
      exact ⟨(re_), r3_ HB.out GE164.out⟩
     replace c17 := Bool.eq_false_iff.mpr c17
     subst c17
     rw [if_neg (show ¬ (false = true) by decide)] at H
     by_cases c18 : x11_1 = 0
     case pos =>
      rw [if_pos c18] at H
      have c18b0 := beq_iff_eq.mpr c18
      have c18b1 := bne_eq_false_iff_eq.mpr c18
      clear c18
      have H' := Aside0.mk H
      clear H
      go_wp2
      go_roundg kj5
      case measure => have := HK1.out; have := HJ5.out; omega
      case rel => exact ⟨(wrap64 (x11_1 + 1)), rs_, H', ⟨by have := HK1.out; have := HJ5.out; omega⟩, ⟨r3_ HB.out GE164.out⟩⟩
     rw [if_neg c18] at H
     have c18b0 := beq_eq_false_iff_ne.mpr c18
     have c18b1 := bne_iff_ne.mpr c18
     obtain ⟨ji19, hji19⟩ : ∃ j_ : Int, (wrap64 (x11_1 - 1)) = j_ := ⟨_, rfl⟩
     replace H : (if 0 ≤ (ji19) then (if (ji19) < (l0.length : Int) then (if ((rd_T81 l0 (ji19)).f0) > ((rd_T81 l0 x11_1).f0) then (some false) else (if ((rd_T81 l0 (ji19)).f0) = ((rd_T81 l0 x11_1).f0) then (if ((rd_T81 l0 (ji19)).f1) ≥ ((rd_T81 l0 x11_1).f1) then (some false) else (if ((rd_T81 l0 (ji19)).f2) > ((rd_T81 l0 x11_1).f2) then (some false) else (impl_IsTable.l0 kj5 l0 l0 (l0.length : Int) (wrap64 (x11_1 + 1))))) else (impl_IsTable.l0 kj5 l0 l0 (l0.length : Int) (wrap64 (x11_1 + 1))))) else (none)) else (none)) = some r := by first | (rw [hji19] at H; exact H) | (simp only [hji19] at H ⊢; exact H)
     have hji19w : (IntKind.i64.wrap (x11_1 - 1)) = ji19 := (i64_w _).trans hji19
     by_cases c20 : 0 ≤ (ji19)
     case neg =>
      rw [if_neg c20] at H
      exact absurd H (by simp)
     rw [if_pos c20] at H
     have c20b0 := decide_eq_true c20
     clear c20
     by_cases c21 : (ji19) < (l0.length : Int)
     case neg =>
      rw [if_neg c21] at H
      exact absurd H (by simp)
     rw [if_pos c21] at H
     have c21b0 := decide_eq_true c21
     clear c21
     by_cases c22 : ((rd_T81 l0 (ji19)).f0) > ((rd_T81 l0 x11_1).f0)
     case pos =>
      rw [if_pos c22] at H
      have c22b0 : decide (((rd_T81 l0 x11_1).f0) < ((rd_T81 l0 (ji19)).f0)) = true := decide_eq_true c22
      clear c22
      obtain rfl := Option.some.inj H
      have p168 : 0 ≤ ((ji19) : Int) := od_
      have q168 : (ji19) < (l0.length : Int) := od_
      obtain ⟨ad168, e168, hx168_0, hx168_1, hx168_2⟩ := at_T81 HR0.out (ji19) p168 q168
      obtain rfl : ad163 = ad168 := (by injection e168)
      replace hx168_0 := bc_ HB.out hx168_0
      replace hx168_1 := bc_ HB.out hx168_1
      replace hx168_2 := bc_ HB.out hx168_2
      replace p168 := eq_true p168
      replace q168 := eq_true q168
      go_wp2_with (first | ((with_reducible refine gate_dst (N := 5) rfl ?_); refine box_event ?hg (N := 5) ?hd (cs := #[.int .i64 0, .int .i64 0, .int .i64 0]) (t := 81) ?hr ?_; (case hd => rfl); (case hg => rfl); (case hr => first | (go_simp; done) | (go_simp; rfl)); intro gb169 hg w23 hbox hb; have BK169 := Aside0.mk (hbox); have GW169 := Aside0.mk ((by rw [hg]; exact (below_size (r3_ HB.out GE164.out)) : w.heap.size ≤ gb169)); have GE169 := Aside0.mk ((by rw [hg]; exact (below_size (r3_ HB.out GE164.out)) : w.heap.size ≤ gb169)); replace HB := Aside0.mk (below_step (r3_ HB.out GE164.out) hb); have NB164_169 := Aside0.mk ((by rw [hg]; exact Nat.ne_of_lt (blk_lt (g := gb164) (o := .cells #[.int .i64 ((rd_T81 l0 x11_1).f0), .int .i64 ((rd_T81 l0 x11_1).f1), .int .i64 ((rd_T81 l0 x11_1).f2)] 81 (0, 0)) (r5_ BK164.out)) : gb164 ≠ gb169)); have NB169_164 := Aside0.mk ((by rw [hg]; exact Nat.ne_of_gt (blk_lt (g := gb164) (o := .cells #[.int .i64 ((rd_T81 l0 x11_1).f0), .int .i64 ((rd_T81 l0 x11_1).f1), .int .i64 ((rd_T81 l0 x11_1).f2)] 81 (0, 0)) (r5_ BK164.out)) : gb169 ≠ gb164)); replace BK164 := Aside0.mk (blk_below (g := gb164) (o := .cells #[.int .i64 ((rd_T81 l0 x11_1).f0), .int .i64 ((rd_T81 l0 x11_1).f1), .int .i64 ((rd_T81 l0 x11_1).f2)] 81 (0, 0)) (r5_ BK164.out) hb); clear hb hbox hg; have hnb24 := NB169_164.out; have hnc24 := NB164_169.out; obtain ⟨hcz25_0, hcz25_1, hcz25_2, hfz25_0, hfz25_1, hfz25_2⟩ := bk3_ BK169.out; obtain ⟨hcz26_0, hcz26_1, hcz26_2, hfz26_0, hfz26_1, hfz26_2⟩ := bk3_ BK164.out))
      go_ret
      exact ⟨by first | rfl | (simp [errW_none, errW_some] <;> rfl) | (simp only [← hji19]; first | rfl | (simp [errW_none, errW_some] <;> rfl)) | (simp [*, errW_none, errW_some] <;> rfl), r16_ HB.out GE164.out GE169.out⟩
     rw [if_neg c22] at H
     have c22b0 : decide (((rd_T81 l0 x11_1).f0) < ((rd_T81 l0 (ji19)).f0)) = false := decide_eq_false c22
     clear c22
     by_cases c27 : ((rd_T81 l0 (ji19)).f0) = ((rd_T81 l0 x11_1).f0)
     case neg =>
      rw [if_neg c27] at H
      have c27b0 := beq_eq_false_iff_ne.mpr c27
      have c27b1 := bne_iff_ne.mpr c27
      have H' := Aside0.mk H
      clear H
      have p168 : 0 ≤ ((ji19) : Int) := od_
      have q168 : (ji19) < (l0.length : Int) := od_
      obtain ⟨ad168, e168, hx168_0, hx168_1, hx168_2⟩ := at_T81 HR0.out (ji19) p168 q168
      obtain rfl : ad163 = ad168 := (by injection e168)
      replace hx168_0 := bc_ HB.out hx168_0
      replace hx168_1 := bc_ HB.out hx168_1
      replace hx168_2 := bc_ HB.out hx168_2
      replace p168 := eq_true p168
      replace q168 := eq_true q168
      go_wp2_with (first | ((with_reducible refine gate_dst (N := 5) rfl ?_); refine box_event ?hg (N := 5) ?hd (cs := #[.int .i64 0, .int .i64 0, .int .i64 0]) (t := 81) ?hr ?_; (case hd => rfl); (case hg => rfl); (case hr => first | (go_simp; done) | (go_simp; rfl)); intro gb169 hg w42 hbox hb; have BK169 := Aside0.mk (hbox); have GW169 := Aside0.mk ((by rw [hg]; exact (below_size (r3_ HB.out GE164.out)) : w.heap.size ≤ gb169)); have GE169 := Aside0.mk ((by rw [hg]; exact (below_size (r3_ HB.out GE164.out)) : w.heap.size ≤ gb169)); replace HB := Aside0.mk (below_step (r3_ HB.out GE164.out) hb); have NB164_169 := Aside0.mk ((by rw [hg]; exact Nat.ne_of_lt (blk_lt (g := gb164) (o := .cells #[.int .i64 ((rd_T81 l0 x11_1).f0), .int .i64 ((rd_T81 l0 x11_1).f1), .int .i64 ((rd_T81 l0 x11_1).f2)] 81 (0, 0)) (r5_ BK164.out)) : gb164 ≠ gb169)); have NB169_164 := Aside0.mk ((by rw [hg]; exact Nat.ne_of_gt (blk_lt (g := gb164) (o := .cells #[.int .i64 ((rd_T81 l0 x11_1).f0), .int .i64 ((rd_T81 l0 x11_1).f1), .int .i64 ((rd_T81 l0 x11_1).f2)] 81 (0, 0)) (r5_ BK164.out)) : gb169 ≠ gb164)); replace BK164 := Aside0.mk (blk_below (g := gb164) (o := .cells #[.int .i64 ((rd_T81 l0 x11_1).f0), .int .i64 ((rd_T81 l0 x11_1).f1), .int .i64 ((rd_T81 l0 x11_1).f2)] 81 (0, 0)) (r5_ BK164.out) hb); clear hb hbox hg; have hnb43 := NB169_164.out; have hnc43 := NB164_169.out; obtain ⟨hcz44_0, hcz44_1, hcz44_2, hfz44_0, hfz44_1, hfz44_2⟩ := bk3_ BK169.out; obtain ⟨hcz45_0, hcz45_1, hcz45_2, hfz45_0, hfz45_1, hfz45_2⟩ := bk3_ BK164.out))
      go_roundg kj5
      case measure => have := HK1.out; have := HJ5.out; omega
      case rel => exact ⟨(wrap64 (x11_1 + 1)), rs_, H', ⟨by have := HK1.out; have := HJ5.out; omega⟩, ⟨r16_ HB.out GE164.out GE169.out⟩⟩
     rw [if_pos c27] at H
     have c27b0 := beq_iff_eq.mpr c27
     have c27b1 := bne_eq_false_iff_eq.mpr c27
     clear c27
     by_cases c28 : ((rd_T81 l0 (ji19)).f1) ≥ ((rd_T81 l0 x11_1).f1)
     case pos =>
      rw [if_pos c28] at H
      have c28b0 : decide (((rd_T81 l0 x11_1).f1) ≤ ((rd_T81 l0 (ji19)).f1)) = true := decide_eq_true c28
      clear c28
      obtain rfl := Option.some.inj H
      have p168 : 0 ≤ ((ji19) : Int) := od_
      have q168 : (ji19) < (l0.length : Int) := od_
      obtain ⟨ad168, e168, hx168_0, hx168_1, hx168_2⟩ := at_T81 HR0.out (ji19) p168 q168
      obtain rfl : ad163 = ad168 := (by injection e168)
      replace hx168_0 := bc_ HB.out hx168_0
      replace hx168_1 := bc_ HB.out hx168_1
      replace hx168_2 := bc_ HB.out hx168_2
      replace p168 := eq_true p168
      replace q168 := eq_true q168
      go_wp2_with (first | ((with_reducible refine gate_dst (N := 5) rfl ?_); refine box_event ?hg (N := 5) ?hd (cs := #[.int .i64 0, .int .i64 0, .int .i64 0]) (t := 81) ?hr ?_; (case hd => rfl); (case hg => rfl); (case hr => first | (go_simp; done) | (go_simp; rfl)); intro gb169 hg w29 hbox hb; have BK169 := Aside0.mk (hbox); have GW169 := Aside0.mk ((by rw [hg]; exact (below_size (r3_ HB.out GE164.out)) : w.heap.size ≤ gb169)); have GE169 := Aside0.mk ((by rw [hg]; exact (below_size (r3_ HB.out GE164.out)) : w.heap.size ≤ gb169)); replace HB := Aside0.mk (below_step (r3_ HB.out GE164.out) hb); have NB164_169 := Aside0.mk ((by rw [hg]; exact Nat.ne_of_lt (blk_lt (g := gb164) (o := .cells #[.int .i64 ((rd_T81 l0 x11_1).f0), .int .i64 ((rd_T81 l0 x11_1).f1), .int .i64 ((rd_T81 l0 x11_1).f2)] 81 (0, 0)) (r5_ BK164.out)) : gb164 ≠ gb169)); have NB169_164 := Aside0.mk ((by rw [hg]; exact Nat.ne_of_gt (blk_lt (g := gb164) (o := .cells #[.int .i64 ((rd_T81 l0 x11_1).f0), .int .i64 ((rd_T81 l0 x11_1).f1), .int .i64 ((rd_T81 l0 x11_1).f2)] 81 (0, 0)) (r5_ BK164.out)) : gb169 ≠ gb164)); replace BK164 := Aside0.mk (blk_below (g := gb164) (o := .cells #[.int .i64 ((rd_T81 l0 x11_1).f0), .int .i64 ((rd_T81 l0 x11_1).f1), .int .i64 ((rd_T81 l0 x11_1).f2)] 81 (0, 0)) (r5_ BK164.out) hb); clear hb hbox hg; have hnb30 := NB169_164.out; have hnc30 := NB164_169.out; obtain ⟨hcz31_0, hcz31_1, hcz31_2, hfz31_0, hfz31_1, hfz31_2⟩ := bk3_ BK169.out; obtain ⟨hcz32_0, hcz32_1, hcz32_2, hfz32_0, hfz32_1, hfz32_2⟩ := bk3_ BK164.out))
      go_ret
      exact ⟨by first | rfl | (simp [errW_none, errW_some] <;> rfl) | (simp only [← hji19]; first | rfl | (simp [errW_none, errW_some] <;> rfl)) | (simp [*, errW_none, errW_some] <;> rfl), r16_ HB.out GE164.out GE169.out⟩
     rw [if_neg c28] at H
     have c28b0 : decide (((rd_T81 l0 x11_1).f1) ≤ ((rd_T81 l0 (ji19)).f1)) = false := decide_eq_false c28
     clear c28
     by_cases c33 : ((rd_T81 l0 (ji19)).f2) > ((rd_T81 l0 x11_1).f2)
     case pos =>
      rw [if_pos c33] at H
      have c33b0 : decide (((rd_T81 l0 x11_1).f2) < ((rd_T81 l0 (ji19)).f2)) = true := decide_eq_true c33
      clear c33
      obtain rfl := Option.some.inj H
      have p168 : 0 ≤ ((ji19) : Int) := od_
      have q168 : (ji19) < (l0.length : Int) := od_
      obtain ⟨ad168, e168, hx168_0, hx168_1, hx168_2⟩ := at_T81 HR0.out (ji19) p168 q168
      obtain rfl : ad163 = ad168 := (by injection e168)
      replace hx168_0 := bc_ HB.out hx168_0
      replace hx168_1 := bc_ HB.out hx168_1
      replace hx168_2 := bc_ HB.out hx168_2
      replace p168 := eq_true p168
      replace q168 := eq_true q168
      go_wp2_with (first | ((with_reducible refine gate_dst (N := 5) rfl ?_); refine box_event ?hg (N := 5) ?hd (cs := #[.int .i64 0, .int .i64 0, .int .i64 0]) (t := 81) ?hr ?_; (case hd => rfl); (case hg => rfl); (case hr => first | (go_simp; done) | (go_simp; rfl)); intro gb169 hg w34 hbox hb; have BK169 := Aside0.mk (hbox); have GW169 := Aside0.mk ((by rw [hg]; exact (below_size (r3_ HB.out GE164.out)) : w.heap.size ≤ gb169)); have GE169 := Aside0.mk ((by rw [hg]; exact (below_size (r3_ HB.out GE164.out)) : w.heap.size ≤ gb169)); replace HB := Aside0.mk (below_step (r3_ HB.out GE164.out) hb); have NB164_169 := Aside0.mk ((by rw [hg]; exact Nat.ne_of_lt (blk_lt (g := gb164) (o := .cells #[.int .i64 ((rd_T81 l0 x11_1).f0), .int .i64 ((rd_T81 l0 x11_1).f1), .int .i64 ((rd_T81 l0 x11_1).f2)] 81 (0, 0)) (r5_ BK164.out)) : gb164 ≠ gb169)); have NB169_164 := Aside0.mk ((by rw [hg]; exact Nat.ne_of_gt (blk_lt (g := gb164) (o := .cells #[.int .i64 ((rd_T81 l0 x11_1).f0), .int .i64 ((rd_T81 l0 x11_1).f1), .int .i64 ((rd_T81 l0 x11_1).f2)] 81 (0, 0)) (r5_ BK164.out)) : gb169 ≠ gb164)); replace BK164 := Aside0.mk (blk_below (g := gb164) (o := .cells #[.int .i64 ((rd_T81 l0 x11_1).f0), .int .i64 ((rd_T81 l0 x11_1).f1), .int .i64 ((rd_T81 l0 x11_1).f2)] 81 (0, 0)) (r5_ BK164.out) hb); clear hb hbox hg; have hnb35 := NB169_164.out; have hnc35 := NB164_169.out; obtain ⟨hcz36_0, hcz36_1, hcz36_2, hfz36_0, hfz36_1, hfz36_2⟩ := bk3_ BK169.out; obtain ⟨hcz37_0, hcz37_1, hcz37_2, hfz37_0, hfz37_1, hfz37_2⟩ := bk3_ BK164.out))
      go_ret
      exact ⟨by first | rfl | (simp [errW_none, errW_some] <;> rfl) | (simp only [← hji19]; first | rfl | (simp [errW_none, errW_some] <;> rfl)) | (simp [*, errW_none, errW_some] <;> rfl), r16_ HB.out GE164.out GE169.out⟩
     rw [if_neg c33] at H
     have c33b0 : decide (((rd_T81 l0 x11_1).f2) < ((rd_T81 l0 (ji19)).f2)) = false := decide_eq_false c33
     clear c33
     have H' := Aside0.mk H
     clear H
     have p168 : 0 ≤ ((ji19) : Int) := od_
     have q168 : (ji19) < (l0.length : Int) := od_
     obtain ⟨ad168, e168, hx168_0, hx168_1, hx168_2⟩ := at_T81 HR0.out (ji19) p168 q168
     obtain rfl : ad163 = ad168 := (by injection e168)
     replace hx168_0 := bc_ HB.out hx168_0
     replace hx168_1 := bc_ HB.out hx168_1
     replace hx168_2 := bc_ HB.out hx168_2
     replace p168 := eq_true p168
     replace q168 := eq_true q168
     go_wp2_with (first | ((with_reducible refine gate_dst (N := 5) rfl ?_); refine box_event ?hg (N := 5) ?hd (cs := #[.int .i64 0, .int .i64 0, .int .i64 0]) (t := 81) ?hr ?_; (case hd => rfl); (case hg => rfl); (case hr => first | (go_simp; done) | (go_simp; rfl)); intro gb169 hg w38 hbox hb; have BK169 := Aside0.mk (hbox); have GW169 := Aside0.mk ((by rw [hg]; exact (below_size (r3_ HB.out GE164.out)) : w.heap.size ≤ gb169)); have GE169 := Aside0.mk ((by rw [hg]; exact (below_size (r3_ HB.out GE164.out)) : w.heap.size ≤ gb169)); replace HB := Aside0.mk (below_step (r3_ HB.out GE164.out) hb); have NB164_169 := Aside0.mk ((by rw [hg]; exact Nat.ne_of_lt (blk_lt (g := gb164) (o := .cells #[.int .i64 ((rd_T81 l0 x11_1).f0), .int .i64 ((rd_T81 l0 x11_1).f1), .int .i64 ((rd_T81 l0 x11_1).f2)] 81 (0, 0)) (r5_ BK164.out)) : gb164 ≠ gb169)); have NB169_164 := Aside0.mk ((by rw [hg]; exact Nat.ne_of_gt (blk_lt (g := gb164) (o := .cells #[.int .i64 ((rd_T81 l0 x11_1).f0), .int .i64 ((rd_T81 l0 x11_1).f1), .int .i64 ((rd_T81 l0 x11_1).f2)] 81 (0, 0)) (r5_ BK164.out)) : gb169 ≠ gb164)); replace BK164 := Aside0.mk (blk_below (g := gb164) (o := .cells #[.int .i64 ((rd_T81 l0 x11_1).f0), .int .i64 ((rd_T81 l0 x11_1).f1), .int .i64 ((rd_T81 l0 x11_1).f2)] 81 (0, 0)) (r5_ BK164.out) hb); clear hb hbox hg; have hnb39 := NB169_164.out; have hnc39 := NB164_169.out; obtain ⟨hcz40_0, hcz40_1, hcz40_2, hfz40_0, hfz40_1, hfz40_2⟩ := bk3_ BK169.out; obtain ⟨hcz41_0, hcz41_1, hcz41_2, hfz41_0, hfz41_1, hfz41_2⟩ := bk3_ BK164.out))
     go_roundg kj5
     case measure => have := HK1.out; have := HJ5.out; omega
     case rel => exact ⟨(wrap64 (x11_1 + 1)), rs_, H', ⟨by have := HK1.out; have := HJ5.out; omega⟩, ⟨r16_ HB.out GE164.out GE169.out⟩⟩
def impl_isPlace.f (a0 : Int) (a1 : Int) : Option (Bool) := (impl_within.f a0 0 100000).bind fun t170 => (if t170 = true then ((impl_within.f a1 0 100000).bind fun t171 => (some t171)) else (some false))
set_option maxHeartbeats 8000000 in
set_option maxRecDepth 100000 in
theorem impl_isPlace.calls (a0 : Int) (a1 : Int) (r : Bool) (w : World) (h : impl_isPlace.f a0 a1 = some r) :
    Calls Try.prog 154 #[.int .i64 a0, .int .i64 a1] w fun e w' => e = .returned (.bool r) ∧ Drawn0 w w' := by
  have H : ((impl_within.f a0 0 100000).bind fun t170 => (if t170 = true then ((impl_within.f a1 0 100000).bind fun t171 => (some t171)) else (some false))) = some r := h
  clear h
  replace H := Option.bind_eq_some_iff.mp H
  obtain ⟨t170, A30, H⟩ := H
  try dsimp only at H
  have A3 := Aside0.mk A30
  clear A30
  by_cases c4 : t170 = true
  · subst c4
    rw [if_pos rfl] at H
    replace H := Option.bind_eq_some_iff.mp H
    obtain ⟨t171, A50, H⟩ := H
    try dsimp only at H
    have A5 := Aside0.mk A50
    clear A50
    obtain rfl := Option.some.inj H
    go_enter Try.func154, Try.ntmps154
    go_wp2_with (first | ((with_reducible refine gate_callee (f := 130) rfl ?_); refine goesL_ (some 6) rfl rfl Try.func130 (by kernel_rfl) rfl #[.int .i64 a0, .int .i64 0, .int .i64 100000] rfl ag_ ?_; (with_reducible refine (impl_within.calls a0 0 100000 true _ A3.out).mono ?_); rintro e w' ⟨rfl, ⟨nd, rfl⟩⟩; refine ⟨_, rfl, ?_⟩) | (go_at_call 130; (with_reducible refine (impl_within.calls a1 0 100000 t171 _ A5.out).mono ?_); rintro e w' ⟨rfl, ⟨nd, rfl⟩⟩))
    go_ret
    exact ⟨by first | rfl | (simp; done) | (simp [*]; done), by repeat (first | exact Drawn0.refl _ | apply Drawn0.step)⟩
  · replace c4 := Bool.eq_false_iff.mpr c4
    subst c4
    rw [if_neg (show ¬ (false = true) by decide)] at H
    obtain rfl := Option.some.inj H
    go_enter Try.func154, Try.ntmps154
    go_wp2_with (first | ((with_reducible refine gate_callee (f := 130) rfl ?_); refine goesL_ (some 6) rfl rfl Try.func130 (by kernel_rfl) rfl #[.int .i64 a0, .int .i64 0, .int .i64 100000] rfl ag_ ?_; (with_reducible refine (impl_within.calls a0 0 100000 false _ A3.out).mono ?_); rintro e w' ⟨rfl, ⟨nd, rfl⟩⟩; refine ⟨_, rfl, ?_⟩))
    go_ret
    exact ⟨by first | rfl | (simp; done) | (simp [*]; done), by repeat (first | exact Drawn0.refl _ | apply Drawn0.step)⟩
def impl_IsArea.f (a0_0 : Int) (a0_1 : Int) (a0_2 : Int) (a0_3 : Int) (a0_4 : Int) : Option (Bool) := (impl_isKind.f a0_0).bind fun t173 => (if t173 = true then ((impl_isPlace.f a0_1 a0_2).bind fun t174 => (if t174 = true then ((impl_within.f a0_3 1 (wrap64 (100000 - a0_1))).bind fun t175 => (if t175 = true then ((impl_within.f a0_4 1 (wrap64 (100000 - a0_2))).bind fun t176 => (some t176)) else (some false))) else (some false))) else (some false))
set_option maxHeartbeats 8000000 in
set_option maxRecDepth 100000 in
theorem impl_IsArea.calls (a0_0 : Int) (a0_1 : Int) (a0_2 : Int) (a0_3 : Int) (a0_4 : Int) (r : Bool) (w : World) (h : impl_IsArea.f a0_0 a0_1 a0_2 a0_3 a0_4 = some r) :
  Calls Try.prog 108 #[.agg #[.int .i64 a0_0, .int .i64 a0_1, .int .i64 a0_2, .int .i64 a0_3, .int .i64 a0_4]] w fun e w' => e = .returned (.bool r) ∧ Below w.heap.size w w' := by
 have hu83 := Try.underlying83
 have HB := Aside0.mk (Below.refl w.heap.size w)
 have H : ((impl_isKind.f a0_0).bind fun t173 => (if t173 = true then ((impl_isPlace.f a0_1 a0_2).bind fun t174 => (if t174 = true then ((impl_within.f a0_3 1 (wrap64 (100000 - a0_1))).bind fun t175 => (if t175 = true then ((impl_within.f a0_4 1 (wrap64 (100000 - a0_2))).bind fun t176 => (some t176)) else (some false))) else (some false))) else (some false))) = some r := h
 clear h
 replace H := Option.bind_eq_some_iff.mp H
 obtain ⟨t173, A20, H⟩ := H
 try dsimp only at H
 have A2 := Aside0.mk A20
 clear A20
 by_cases c3 : t173 = true
 case neg =>
  replace c3 := Bool.eq_false_iff.mpr c3
  subst c3
  rw [if_neg (show ¬ (false = true) by decide)] at H
  obtain rfl := Option.some.inj H
  go_enter Try.func108, Try.ntmps108
  go_wp2_with (first | ((with_reducible refine gate_dst (N := 1) rfl ?_); refine box_event ?hg (N := 1) ?hd (cs := #[.int .i64 a0_0, .int .i64 a0_1, .int .i64 a0_2, .int .i64 a0_3, .int .i64 a0_4]) (t := 83) ?hr ?_; (case hd => rfl); (case hg => rfl); (case hr => first | (go_simp; done) | (go_simp; rfl)); intro gb172 hg w15 hbox hb; have BK172 := Aside0.mk (hbox); have GW172 := Aside0.mk ((by rw [hg]; exact (below_size (bl_ HB.out)) : w.heap.size ≤ gb172)); have GE172 := Aside0.mk ((by rw [hg]; exact (below_size (bl_ HB.out)) : w.heap.size ≤ gb172)); replace HB := Aside0.mk (below_step (bl_ HB.out) hb); clear hb hbox hg; obtain ⟨hcz16_0, hcz16_1, hcz16_2, hcz16_3, hcz16_4, hfz16_0, hfz16_1, hfz16_2, hfz16_3, hfz16_4⟩ := bk5_ BK172.out) | ((with_reducible refine gate_callee (f := 153) rfl ?_); refine goesL_ (some 5) rfl rfl Try.func153 (by kernel_rfl) rfl #[.int .i64 a0_0] rfl ag_ ?_; (with_reducible refine (impl_isKind.calls a0_0 false _ A2.out).mono ?_); rintro e w' ⟨rfl, ⟨nd, rfl⟩⟩; refine ⟨_, rfl, ?_⟩))
  go_ret
  exact ⟨(re_), r3_ HB.out GE172.out⟩


 subst c3
 rw [if_pos rfl] at H
 replace H := Option.bind_eq_some_iff.mp H
 obtain ⟨t174, A40, H⟩ := H
 try dsimp only at H
 have A4 := Aside0.mk A40
 clear A40
 by_cases c5 : t174 = true
 case neg =>
  replace c5 := Bool.eq_false_iff.mpr c5
  subst c5
  rw [if_neg (show ¬ (false = true) by decide)] at H
  obtain rfl := Option.some.inj H
  go_enter Try.func108, Try.ntmps108
  go_wp2_with (first | ((with_reducible refine gate_dst (N := 1) rfl ?_); refine box_event ?hg (N := 1) ?hd (cs := #[.int .i64 a0_0, .int .i64 a0_1, .int .i64 a0_2, .int .i64 a0_3, .int .i64 a0_4]) (t := 83) ?hr ?_; (case hd => rfl); (case hg => rfl); (case hr => first | (go_simp; done) | (go_simp; rfl)); intro gb172 hg w13 hbox hb; have BK172 := Aside0.mk (hbox); have GW172 := Aside0.mk ((by rw [hg]; exact (below_size (bl_ HB.out)) : w.heap.size ≤ gb172)); have GE172 := Aside0.mk ((by rw [hg]; exact (below_size (bl_ HB.out)) : w.heap.size ≤ gb172)); replace HB := Aside0.mk (below_step (bl_ HB.out) hb); clear hb hbox hg; obtain ⟨hcz14_0, hcz14_1, hcz14_2, hcz14_3, hcz14_4, hfz14_0, hfz14_1, hfz14_2, hfz14_3, hfz14_4⟩ := bk5_ BK172.out) | ((with_reducible refine gate_callee (f := 153) rfl ?_); refine goesL_ (some 5) rfl rfl Try.func153 (by kernel_rfl) rfl #[.int .i64 a0_0] rfl ag_ ?_; (with_reducible refine (impl_isKind.calls a0_0 true _ A2.out).mono ?_); rintro e w' ⟨rfl, ⟨nd, rfl⟩⟩; refine ⟨_, rfl, ?_⟩) | (go_at_call 154; (with_reducible refine (impl_isPlace.calls a0_1 a0_2 false _ A4.out).mono ?_); rintro e w' ⟨rfl, ⟨nd, rfl⟩⟩))
  go_ret
  exact ⟨(re_), r3_ HB.out GE172.out⟩
 subst c5
 rw [if_pos rfl] at H
 replace H := Option.bind_eq_some_iff.mp H
 obtain ⟨t175, A60, H⟩ := H
 try dsimp only at H
 have A6 := Aside0.mk A60
 clear A60
 by_cases c7 : t175 = true
 case neg =>
  replace c7 := Bool.eq_false_iff.mpr c7
  subst c7
  rw [if_neg (show ¬ (false = true) by decide)] at H
  obtain rfl := Option.some.inj H
  go_enter Try.func108, Try.ntmps108
  go_wp2_with (first | ((with_reducible refine gate_dst (N := 1) rfl ?_); refine box_event ?hg (N := 1) ?hd (cs := #[.int .i64 a0_0, .int .i64 a0_1, .int .i64 a0_2, .int .i64 a0_3, .int .i64 a0_4]) (t := 83) ?hr ?_; (case hd => rfl); (case hg => rfl); (case hr => first | (go_simp; done) | (go_simp; rfl)); intro gb172 hg w11 hbox hb; have BK172 := Aside0.mk (hbox); have GW172 := Aside0.mk ((by rw [hg]; exact (below_size (bl_ HB.out)) : w.heap.size ≤ gb172)); have GE172 := Aside0.mk ((by rw [hg]; exact (below_size (bl_ HB.out)) : w.heap.size ≤ gb172)); replace HB := Aside0.mk (below_step (bl_ HB.out) hb); clear hb hbox hg; obtain ⟨hcz12_0, hcz12_1, hcz12_2, hcz12_3, hcz12_4, hfz12_0, hfz12_1, hfz12_2, hfz12_3, hfz12_4⟩ := bk5_ BK172.out) | ((with_reducible refine gate_callee (f := 153) rfl ?_); refine goesL_ (some 5) rfl rfl Try.func153 (by kernel_rfl) rfl #[.int .i64 a0_0] rfl ag_ ?_; (with_reducible refine (impl_isKind.calls a0_0 true _ A2.out).mono ?_); rintro e w' ⟨rfl, ⟨nd, rfl⟩⟩; refine ⟨_, rfl, ?_⟩) | (go_at_call 154; (with_reducible refine (impl_isPlace.calls a0_1 a0_2 true _ A4.out).mono ?_); rintro e w' ⟨rfl, ⟨nd, rfl⟩⟩) | (go_at_call 130; (with_reducible refine (impl_within.calls a0_3 1 (wrap64 (100000 - a0_1)) false _ A6.out).mono ?_); rintro e w' ⟨rfl, ⟨nd, rfl⟩⟩))
  go_ret
  exact ⟨(re_), r3_ HB.out GE172.out⟩
 subst c7
 rw [if_pos rfl] at H
 replace H := Option.bind_eq_some_iff.mp H
 obtain ⟨t176, A80, H⟩ := H
 try dsimp only at H
 have A8 := Aside0.mk A80
 clear A80
 obtain rfl := Option.some.inj H
 go_enter Try.func108, Try.ntmps108
 go_wp2_with (first | ((with_reducible refine gate_dst (N := 1) rfl ?_); refine box_event ?hg (N := 1) ?hd (cs := #[.int .i64 a0_0, .int .i64 a0_1, .int .i64 a0_2, .int .i64 a0_3, .int .i64 a0_4]) (t := 83) ?hr ?_; (case hd => rfl); (case hg => rfl); (case hr => first | (go_simp; done) | (go_simp; rfl)); intro gb172 hg w9 hbox hb; have BK172 := Aside0.mk (hbox); have GW172 := Aside0.mk ((by rw [hg]; exact (below_size (bl_ HB.out)) : w.heap.size ≤ gb172)); have GE172 := Aside0.mk ((by rw [hg]; exact (below_size (bl_ HB.out)) : w.heap.size ≤ gb172)); replace HB := Aside0.mk (below_step (bl_ HB.out) hb); clear hb hbox hg; obtain ⟨hcz10_0, hcz10_1, hcz10_2, hcz10_3, hcz10_4, hfz10_0, hfz10_1, hfz10_2, hfz10_3, hfz10_4⟩ := bk5_ BK172.out) | ((with_reducible refine gate_callee (f := 153) rfl ?_); refine goesL_ (some 5) rfl rfl Try.func153 (by kernel_rfl) rfl #[.int .i64 a0_0] rfl ag_ ?_; (with_reducible refine (impl_isKind.calls a0_0 true _ A2.out).mono ?_); rintro e w' ⟨rfl, ⟨nd, rfl⟩⟩; refine ⟨_, rfl, ?_⟩) | (go_at_call 154; (with_reducible refine (impl_isPlace.calls a0_1 a0_2 true _ A4.out).mono ?_); rintro e w' ⟨rfl, ⟨nd, rfl⟩⟩) | (go_at_call 130; (with_reducible refine (impl_within.calls a0_3 1 (wrap64 (100000 - a0_1)) true _ A6.out).mono ?_); rintro e w' ⟨rfl, ⟨nd, rfl⟩⟩) | (go_at_call 130; (with_reducible refine (impl_within.calls a0_4 1 (wrap64 (100000 - a0_2)) t176 _ A8.out).mono ?_); rintro e w' ⟨rfl, ⟨nd, rfl⟩⟩))
 go_ret
 exact ⟨(re_), r3_ HB.out GE172.out⟩
def impl_IsSite.l0 : Nat → List (S83) → Int → Int → Option (Bool)
 | 0, _, _, _ => none
 | k + 1, x8, x9, x10 => if x10 < x9 then (if 0 ≤ x10 then (if x10 < (x8.length : Int) then ((impl_IsArea.f ((rd_T83 x8 x10).f0) ((rd_T83 x8 x10).f1) ((rd_T83 x8 x10).f2) ((rd_T83 x8 x10).f3) ((rd_T83 x8 x10).f4)).bind fun t179 => (if t179 = true then (impl_IsSite.l0 k x8 x9 (wrap64 (x10 + 1))) else (some false))) else (none)) else (none)) else (some true)
def impl_IsSite.f (k : Nat) (l0 : List (S83)) : Option (Bool) := if (l0.length : Int) > 10 then (some false) else (impl_IsSite.l0 k l0 (l0.length : Int) 0)
set_option maxHeartbeats 8000000 in
set_option maxRecDepth 100000 in
theorem impl_IsSite.calls (k : Nat) (A0 : Option Addr) (c0 : Nat) (l0 : List (S83)) (r : Bool) (w : World) (hr0 : Kd.C k83 w A0 l0.length l0) (hc0 : l0.length ≤ c0) (h : impl_IsSite.f k l0 = some r) :
  Calls Try.prog 117 #[.slice A0 l0.length c0] w fun e w' => e = .returned (.bool r) ∧ Below w.heap.size w w' := by
 have hu83 := Try.underlying83
 have HR0 := Aside0.mk hr0
 have HC0 := Aside0.mk hc0
 clear hr0 hc0
 have HB := Aside0.mk (Below.refl w.heap.size w)
 have H : (if (l0.length : Int) > 10 then (some false) else (impl_IsSite.l0 k l0 (l0.length : Int) 0)) = some r := h
 clear h
 by_cases c2 : (l0.length : Int) > 10
 case pos =>
  rw [if_pos c2] at H
  have c2b0 : decide (10 < (l0.length : Int)) = true := decide_eq_true c2
  have c2b1 : decide (10 < l0.length) = true := decide_eq_true (by omega)
  clear c2
  obtain rfl := Option.some.inj H
  go_enter Try.func117, Try.ntmps117
  go_wp2
  go_ret
  exact ⟨(re_), bl_ HB.out⟩
 rw [if_neg c2] at H
 have c2b0 : decide (10 < (l0.length : Int)) = false := decide_eq_false c2
 have c2b1 : decide (10 < l0.length) = false := decide_eq_false (by omega)
 clear c2
 have H' := Aside0.mk H
 clear H
 go_enter Try.func117, Try.ntmps117
 go_wp2
 go_loopg [10] k (fun kq v10 w' => ∃ (x10_1 : Int), v10 = .int .i64 x10_1 ∧ Aside0 (impl_IsSite.l0 kq l0 (l0.length : Int) x10_1 = some r) ∧ Aside0 (kq ≤ k) ∧ Aside0 (Below w.heap.size w w'))
 case atStart => exact ⟨(0), rs_, H', ⟨Nat.le_refl _⟩, ⟨bl_ HB.out⟩⟩
 case round =>
  clear H'
  try clear c1
  try clear c2
  try clear c2b0
  try clear c2b1
  try clear p2
  obtain ⟨x10_1, rfl, HA, HK1, HB⟩ := hrel
  cases gk with
  | zero => exact absurd HA.out (by simp [impl_IsSite.l0])
  | succ k1 =>
   have H := HA.out
   clear HA
   simp only [impl_IsSite.l0] at H
   by_cases c3 : x10_1 < (l0.length : Int)
   case neg =>
    rw [if_neg c3] at H
    have c3b0 := decide_eq_false c3
    clear c3
    obtain rfl := Option.some.inj H
    go_wp2
    go_ret
    exact ⟨(re_), bl_ HB.out⟩


   rw [if_pos c3] at H
   have c3b0 := decide_eq_true c3
   clear c3
   by_cases c4 : 0 ≤ x10_1
   case neg =>
    rw [if_neg c4] at H
    exact absurd H (by simp)
   rw [if_pos c4] at H
   have c4b0 := decide_eq_true c4
   clear c4
   by_cases c5 : x10_1 < (l0.length : Int)
   case neg =>
    rw [if_neg c5] at H
    exact absurd H (by simp)
   rw [if_pos c5] at H
   have c5b0 := decide_eq_true c5
   clear c5
   replace H := Option.bind_eq_some_iff.mp H
   obtain ⟨t179, A60, H⟩ := H
   try dsimp only at H
   have A6 := Aside0.mk A60
   clear A60
   by_cases c7 : t179 = true
   case neg =>
    replace c7 := Bool.eq_false_iff.mpr c7
    subst c7
    rw [if_neg (show ¬ (false = true) by decide)] at H
    obtain rfl := Option.some.inj H
    have p177 : 0 ≤ (x10_1 : Int) := od_
    have q177 : x10_1 < (l0.length : Int) := od_
    obtain ⟨ad177, e177, hx177_0, hx177_1, hx177_2, hx177_3, hx177_4⟩ := at_T83 HR0.out x10_1 p177 q177
    cases e177
    replace hx177_0 := bc_ HB.out hx177_0
    replace hx177_1 := bc_ HB.out hx177_1
    replace hx177_2 := bc_ HB.out hx177_2
    replace hx177_3 := bc_ HB.out hx177_3
    replace hx177_4 := bc_ HB.out hx177_4
    replace p177 := eq_true p177
    replace q177 := eq_true q177
    go_wp2_with (first | ((with_reducible refine gate_dst (N := 4) rfl ?_); refine box_event ?hg (N := 4) ?hd (cs := #[.int .i64 0, .int .i64 0, .int .i64 0, .int .i64 0, .int .i64 0]) (t := 83) ?hr ?_; (case hd => rfl); (case hg => rfl); (case hr => first | (go_simp; done) | (go_simp; rfl)); intro gb178 hg w11 hbox hb; have BK178 := Aside0.mk (hbox); have GW178 := Aside0.mk ((by rw [hg]; exact (below_size (bl_ HB.out)) : w.heap.size ≤ gb178)); have GE178 := Aside0.mk ((by rw [hg]; exact (below_size (bl_ HB.out)) : w.heap.size ≤ gb178)); replace HB := Aside0.mk (below_step (bl_ HB.out) hb); clear hb hbox hg; obtain ⟨hcz12_0, hcz12_1, hcz12_2, hcz12_3, hcz12_4, hfz12_0, hfz12_1, hfz12_2, hfz12_3, hfz12_4⟩ := bk5_ BK178.out) | ((with_reducible refine gate_callee (f := 108) rfl ?_); refine goesL_ (some 15) rfl rfl Try.func108 (by kernel_rfl) rfl #[.agg #[.int .i64 ((rd_T83 l0 x10_1).f0), .int .i64 ((rd_T83 l0 x10_1).f1), .int .i64 ((rd_T83 l0 x10_1).f2), .int .i64 ((rd_T83 l0 x10_1).f3), .int .i64 ((rd_T83 l0 x10_1).f4)]] rfl ag_ ?_; (with_reducible refine (impl_IsArea.calls ((rd_T83 l0 x10_1).f0) ((rd_T83 l0 x10_1).f1) ((rd_T83 l0 x10_1).f2) ((rd_T83 l0 x10_1).f3) ((rd_T83 l0 x10_1).f4) false _ A6.out).mono ?_); rintro e w13 ⟨rfl, hb⟩; refine ⟨_, rfl, ?_⟩; replace BK178 := Aside0.mk (blk_below (g := gb178) (o := .cells #[.int .i64 ((rd_T83 l0 x10_1).f0), .int .i64 ((rd_T83 l0 x10_1).f1), .int .i64 ((rd_T83 l0 x10_1).f2), .int .i64 ((rd_T83 l0 x10_1).f3), .int .i64 ((rd_T83 l0 x10_1).f4)] 83 (0, 0)) (by (with_reducible repeat (first | refine blk_drewN ?_ _ | refine blk_drew ?_ | refine blk_alloc ?_ _)); exact bp5_ BK178.out) hb); replace HB := Aside0.mk (below_step (r3_ HB.out GE178.out) hb); (try clear hb); (try clear hb2); (try clear hk); (try clear hi)))
    go_ret
    exact ⟨(re_), r3_ HB.out GE178.out⟩
   subst c7
   rw [if_pos rfl] at H
   have H' := Aside0.mk H
   clear H
   have p177 : 0 ≤ (x10_1 : Int) := od_
   have q177 : x10_1 < (l0.length : Int) := od_
   obtain ⟨ad177, e177, hx177_0, hx177_1, hx177_2, hx177_3, hx177_4⟩ := at_T83 HR0.out x10_1 p177 q177
   cases e177
   replace hx177_0 := bc_ HB.out hx177_0
   replace hx177_1 := bc_ HB.out hx177_1
   replace hx177_2 := bc_ HB.out hx177_2
   replace hx177_3 := bc_ HB.out hx177_3
   replace hx177_4 := bc_ HB.out hx177_4
   replace p177 := eq_true p177
   replace q177 := eq_true q177
   go_wp2_with (first | ((with_reducible refine gate_dst (N := 4) rfl ?_); refine box_event ?hg (N := 4) ?hd (cs := #[.int .i64 0, .int .i64 0, .int .i64 0, .int .i64 0, .int .i64 0]) (t := 83) ?hr ?_; (case hd => rfl); (case hg => rfl); (case hr => first | (go_simp; done) | (go_simp; rfl)); intro gb178 hg w8 hbox hb; have BK178 := Aside0.mk (hbox); have GW178 := Aside0.mk ((by rw [hg]; exact (below_size (bl_ HB.out)) : w.heap.size ≤ gb178)); have GE178 := Aside0.mk ((by rw [hg]; exact (below_size (bl_ HB.out)) : w.heap.size ≤ gb178)); replace HB := Aside0.mk (below_step (bl_ HB.out) hb); clear hb hbox hg; obtain ⟨hcz9_0, hcz9_1, hcz9_2, hcz9_3, hcz9_4, hfz9_0, hfz9_1, hfz9_2, hfz9_3, hfz9_4⟩ := bk5_ BK178.out) | ((with_reducible refine gate_callee (f := 108) rfl ?_); refine goesL_ (some 15) rfl rfl Try.func108 (by kernel_rfl) rfl #[.agg #[.int .i64 ((rd_T83 l0 x10_1).f0), .int .i64 ((rd_T83 l0 x10_1).f1), .int .i64 ((rd_T83 l0 x10_1).f2), .int .i64 ((rd_T83 l0 x10_1).f3), .int .i64 ((rd_T83 l0 x10_1).f4)]] rfl ag_ ?_; (with_reducible refine (impl_IsArea.calls ((rd_T83 l0 x10_1).f0) ((rd_T83 l0 x10_1).f1) ((rd_T83 l0 x10_1).f2) ((rd_T83 l0 x10_1).f3) ((rd_T83 l0 x10_1).f4) true _ A6.out).mono ?_); rintro e w10 ⟨rfl, hb⟩; refine ⟨_, rfl, ?_⟩; replace BK178 := Aside0.mk (blk_below (g := gb178) (o := .cells #[.int .i64 ((rd_T83 l0 x10_1).f0), .int .i64 ((rd_T83 l0 x10_1).f1), .int .i64 ((rd_T83 l0 x10_1).f2), .int .i64 ((rd_T83 l0 x10_1).f3), .int .i64 ((rd_T83 l0 x10_1).f4)] 83 (0, 0)) (by (with_reducible repeat (first | refine blk_drewN ?_ _ | refine blk_drew ?_ | refine blk_alloc ?_ _)); exact bp5_ BK178.out) hb); replace HB := Aside0.mk (below_step (r3_ HB.out GE178.out) hb); (try clear hb); (try clear hb2); (try clear hk); (try clear hi)))
   go_roundg k1
   case measure => have := HK1.out; omega
   case rel => exact ⟨(wrap64 (x10_1 + 1)), rs_, H', ⟨by have := HK1.out; omega⟩, ⟨r3_ HB.out GE178.out⟩⟩
end Go.Proofs.Ytedcdhnbceaaeaa.PFnTables
