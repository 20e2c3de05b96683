/- QFnModulese of the law FnModules: taken over, declaration by declaration, as far as the law leans on it (the words and the printed functions are the kit's own print). No condition but what each says. -/
import Derived.Test.YtmahecjbejffoaaZFnModulesav
import Derived.Test.YtmahecjbejffoaaZFnModulesaw
import Derived.Test.YtmahecjbejffoaaZFnModulesax
import Derived.Test.YtmahecjbejffoaaZFnModulesay
import Derived.Test.YtmahecjbejffoaaZFnModulesaz
namespace Go.Proofs.Ytmahecjbejffoaa.PFnModules
open Go.RowKit Go.Proofs.YtmahecjbejffoaaW.PrintWords Go.Proofs.YtmahecjbejffoaaW.PrintLast Go.Proofs.YtmahecjbejffoaaW.PrintMore
attribute [local go_sem] max2_int min2_int max_two min_two max_three min_three max_four min_four   -- for this text's walks alone
set_option linter.unusedVariables false
set_option linter.unusedSimpArgs false
def spec_l01Has.l0 : Nat → List Int → Int → Int → Option (Bool)
  | 0, _, _, _ => none
  | k + 1, x0, x1, x5 => if x5 < (x0.length : Int) then (if 0 ≤ x5 then (if (rd x0 x5) = x1 then (some true) else (spec_l01Has.l0 k x0 x1 (wrap64 (x5 + 1)))) else (none)) else (some false)
def spec_l01Has.f (k : Nat) (l0 : List Int) (a1 : Int) : Option (Bool) := spec_l01Has.l0 k l0 a1 0
theorem spec_l01Has.mono_l : ∀ k, (∀ y0 y1 y2, LeO (spec_l01Has.l0 k y0 y1 y2) (spec_l01Has.l0 (k + 1) y0 y1 y2))
  | 0 => fun _ _ _ r h => by simp [spec_l01Has.l0] at h
  | k + 1 => by
    have ih0 := spec_l01Has.mono_l k
    · intro y0 y1 y2
      unfold spec_l01Has.l0
      repeat' first
      | (with_reducible exact ih0 _ _ _)
      | (with_reducible exact LeO.refl _)
      | (with_reducible exact LeO.none _)
      | (with_reducible refine LeO.ite ?_ ?_)
      | (with_reducible refine LeO.bind ?_ (fun _ => ?_))
      | exact ih0 _ _ _
      | exact LeO.none _
      | refine LeO.ite ?_ ?_
      | refine LeO.bind ?_ (fun _ => ?_)
theorem spec_l01Has.mono : ∀ a0 a1 k, LeO (spec_l01Has.f k a0 a1) (spec_l01Has.f (k + 1) a0 a1) := by
  intro a0 a1 k
  have ih0 := spec_l01Has.mono_l k
  unfold spec_l01Has.f
  repeat' first
      | (with_reducible exact ih0 _ _ _)
      | (with_reducible exact LeO.refl _)
      | (with_reducible exact LeO.none _)
      | (with_reducible refine LeO.ite ?_ ?_)
      | (with_reducible refine LeO.bind ?_ (fun _ => ?_))
      | exact ih0 _ _ _
      | exact LeO.none _
      | refine LeO.ite ?_ ?_
      | refine LeO.bind ?_ (fun _ => ?_)
set_option maxHeartbeats 8000000 in
set_option maxRecDepth 100000 in
theorem spec_l01Has.calls (k : Nat) (A0 : Option Addr) (c0 : Nat) (l0 : List Int) (a1 : Int) (r : Bool) (w : World) (hr0 : Kd.C (Kd.int .i64) w A0 l0.length l0) (hc0 : l0.length ≤ c0) (h : spec_l01Has.f k l0 a1 = some r) :
    Calls Try.prog 140 #[.slice A0 l0.length c0, .int .i64 a1] w fun e w' => e = .returned (.bool r) ∧ Drawn0 w w' := by
  have HR0 := Aside0.mk hr0
  have HC0 := Aside0.mk hc0
  clear hr0 hc0
  have H : (spec_l01Has.l0 k l0 a1 0) = some r := h
  clear h
  have H' := Aside0.mk H
  clear H
  go_enter Try.func140, Try.ntmps140
  go_wp2
  go_loopg [5] k (fun kq v5 w' => ∃ (x5_1 : Int), v5 = .int .i64 x5_1 ∧ Aside0 (spec_l01Has.l0 kq l0 a1 x5_1 = some r) ∧ Aside0 (kq ≤ k) ∧ Drawn0 w w')
  case atStart => exact ⟨(0), (by first | rfl | (simp; done) | (simp [*]; done)), H', ⟨Nat.le_refl _⟩, by repeat (first | exact Drawn0.refl _ | apply Drawn0.step)⟩
  case round =>
    clear H'
    try clear c1
    try clear p2
    obtain ⟨x5_1, rfl, HA, HK1, ⟨m1, rfl⟩⟩ := hrel
    cases gk with
    | zero => exact absurd HA.out (by simp [spec_l01Has.l0])
    | succ k1 =>
      have H := HA.out
      clear HA
      simp only [spec_l01Has.l0] at H
      by_cases c3 : x5_1 < (l0.length : Int)
      · rw [if_pos c3] at H
        have c3b0 : decide (x5_1 < (l0.length : Int)) = true := decide_eq_true c3
        clear c3
        by_cases c4 : 0 ≤ x5_1
        · rw [if_pos c4] at H
          have c4b0 : decide (0 ≤ x5_1) = true := decide_eq_true c4
          clear c4
          by_cases c5 : (rd l0 x5_1) = a1
          · rw [if_pos c5] at H
            have c5b0 : ((rd l0 x5_1) == a1) = true := beq_iff_eq.mpr c5
            have c5b1 : ((rd l0 x5_1) != a1) = false := bne_eq_false_iff_eq.mpr c5
            clear c5
            obtain rfl := Option.some.inj H
            have p267 : 0 ≤ (x5_1 : Int) := of_decide_eq_true (by first | (with_reducible assumption) | assumption)
            have q267 : x5_1 < (l0.length : Int) := of_decide_eq_true (by first | (with_reducible assumption) | assumption)
            obtain ⟨ad267, e267, hx267_0⟩ := Kd.at_int HR0.out x5_1 p267 q267
            cases e267
            replace p267 := eq_true p267
            replace q267 := eq_true q267
            go_wp2
            go_ret
            exact ⟨by first | rfl | (simp; done) | (simp [*]; done), by repeat (first | exact Drawn0.refl _ | apply Drawn0.step)⟩
          · rw [if_neg c5] at H
            have c5b0 : ((rd l0 x5_1) == a1) = false := beq_eq_false_iff_ne.mpr c5
            have c5b1 : ((rd l0 x5_1) != a1) = true := bne_iff_ne.mpr c5
            have H' := Aside0.mk H
            clear H
            have p267 : 0 ≤ (x5_1 : Int) := of_decide_eq_true (by first | (with_reducible assumption) | assumption)
            have q267 : x5_1 < (l0.length : Int) := of_decide_eq_true (by first | (with_reducible assumption) | assumption)
            obtain ⟨ad267, e267, hx267_0⟩ := Kd.at_int HR0.out x5_1 p267 q267
            cases e267
            replace p267 := eq_true p267
            replace q267 := eq_true q267
            go_wp2
            go_roundg k1
            case measure => have := HK1.out; omega
            case rel => exact ⟨(wrap64 (x5_1 + 1)), (by first | rfl | (simp; done) | (simp [*]; done)), H', ⟨by have := HK1.out; omega⟩, by repeat (first | exact Drawn0.refl _ | apply Drawn0.step)⟩
        · rw [if_neg c4] at H
          exact absurd H (by simp)
      · rw [if_neg c3] at H
        have c3b0 : decide (x5_1 < (l0.length : Int)) = false := decide_eq_false c3
        clear c3
        obtain rfl := Option.some.inj H
        go_wp2
        go_ret
        exact ⟨by first | rfl | (simp; done) | (simp [*]; done), by repeat (first | exact Drawn0.refl _ | apply Drawn0.step)⟩
def spec_l12Below.l0 : Nat → List (S47) → Int → List Int → Int → Option (List Int)
  | 0, _, _, _, _ => none
  | k + 1, x0, x1, x5, x6 => if x6 < (x0.length : Int) then ((spec_l12Way.f k x0 x6).bind fun t271 => ((spec_l01Has.f k t271 x1).bind fun t274 => (if t274 = true then (if x5.length < 17592186044416 then (spec_l12Below.l0 k x0 x1 (x5 ++ [x6]) (wrap64 (x6 + 1))) else (none)) else (spec_l12Below.l0 k x0 x1 x5 (wrap64 (x6 + 1)))))) else (some x5)
def spec_l12Below.f (k : Nat) (l0 : List (S47)) (a1 : Int) : Option (List Int) := spec_l12Below.l0 k l0 a1 (([] : List Int)) 0
theorem spec_l12Below.mono_l : ∀ k, (∀ y0 y1 y2 y3, LeO (spec_l12Below.l0 k y0 y1 y2 y3) (spec_l12Below.l0 (k + 1) y0 y1 y2 y3))
  | 0 => fun _ _ _ _ r h => by simp [spec_l12Below.l0] at h
  | k + 1 => by
    have ih0 := spec_l12Below.mono_l k
    · intro y0 y1 y2 y3
      unfold spec_l12Below.l0
      repeat' first
      | (with_reducible exact ih0 _ _ _ _)
      | (with_reducible exact spec_l01Has.mono _ _ _)
      | (with_reducible exact spec_l12Way.mono _ _ _)
      | (with_reducible exact LeO.refl _)
      | (with_reducible exact LeO.none _)
      | (with_reducible refine LeO.ite ?_ ?_)
      | (with_reducible refine LeO.bind ?_ (fun _ => ?_))
      | exact ih0 _ _ _ _
      | exact spec_l01Has.mono _ _ _
      | exact spec_l12Way.mono _ _ _
      | exact LeO.none _
      | refine LeO.ite ?_ ?_
      | refine LeO.bind ?_ (fun _ => ?_)
theorem spec_l12Below.mono : ∀ a0 a1 k, LeO (spec_l12Below.f k a0 a1) (spec_l12Below.f (k + 1) a0 a1) := by
  intro a0 a1 k
  have ih0 := spec_l12Below.mono_l k
  unfold spec_l12Below.f
  repeat' first
      | (with_reducible exact ih0 _ _ _ _)
      | (with_reducible exact spec_l01Has.mono _ _ _)
      | (with_reducible exact spec_l12Way.mono _ _ _)
      | (with_reducible exact LeO.refl _)
      | (with_reducible exact LeO.none _)
      | (with_reducible refine LeO.ite ?_ ?_)
      | (with_reducible refine LeO.bind ?_ (fun _ => ?_))
      | exact ih0 _ _ _ _
      | exact spec_l01Has.mono _ _ _
      | exact spec_l12Way.mono _ _ _
      | exact LeO.none _
      | refine LeO.ite ?_ ?_
      | refine LeO.bind ?_ (fun _ => ?_)
set_option maxHeartbeats 8000000 in
set_option maxRecDepth 100000 in
theorem spec_l12Below.calls (k : Nat) (A0 : Option Addr) (c0 : Nat) (l0 : List (S47)) (a1 : Int) (r : List Int) (w : World) (hr0 : Kd.C k47 w A0 l0.length l0) (hc0 : l0.length ≤ c0) (h : spec_l12Below.f k l0 a1 = some r) :
    Calls Try.prog 118 #[.slice A0 l0.length c0, .int .i64 a1] w fun e w' => ∃ v0_ : Value, e = .returned (v0_) ∧ Kd.R (Kd.int .i64) 2 w' w.heap.size (fun _ => True) v0_ r ∧ Below w.heap.size w w' := by
  have HR0 := Aside0.mk hr0
  have HC0 := Aside0.mk hc0
  clear hr0 hc0
  have HB := Aside0.mk (Below.refl w.heap.size w)
  have H : (spec_l12Below.l0 k l0 a1 (([] : List Int)) 0) = some r := h
  clear h
  obtain ⟨y268, hy268⟩ : ∃ y_ : List Int, y_ = (([] : List Int)) := ⟨_, rfl⟩
  replace H : (spec_l12Below.l0 k l0 a1 y268 0) = some r := by first | (rw [hy268]; with_reducible exact H) | (have H2_ := (Option.bind_some _ _).symm.trans H; rw [hy268]; with_reducible exact H2_) | (have H2_ := (Option.bind_some _ _).symm.trans H; with_reducible exact H2_) | with_reducible exact H | (rw [hy268]; exact H) | exact H
  have Ny268 := Aside0.mk hy268
  clear hy268
  have H' := Aside0.mk H
  clear H
  go_enter Try.func118, Try.ntmps118
  go_wp2_with (first | ((with_reducible refine gate_dst (N := 7) rfl ?_); refine Kd.R_lit (Kd.int .i64) _ 2 ?hg (N := 7) ?hd (xs := ([] : List Int)) (inner := []) (ok := fun _ => True) (okp := fun _ => True) ?hr ?hp (fun _ hk => hk) trivial (Below.refl _ _) (Nat.le_refl _) (by simp) ?_; (case hd => rfl); (case hg => rfl); (case hr => first | (go_simp; done) | (go_simp; rfl)); (case hp => exact (Reps.none _ _)); intro v269 w3 ho4 hb hg_ hnew_; clear hg_ hnew_; (first | rw [← Ny268.out] at ho4 | (simp only [Int.reduceToNat] at ho4; rw [← Ny268.out] at ho4)); have n0_ := Aside0.mk (Kd.R_lower ho4 (below_size (by repeat (first | (with_reducible first | exact HB.out | apply below_alloc | apply pw_below_drewN | apply below_drew1) | exact HB.out)))); have n1_ := Aside0.mk (below_step (by repeat (first | (with_reducible first | exact HB.out | apply below_alloc | apply pw_below_drewN | apply below_drew1) | exact HB.out)) hb); clear HB; have HO270 := n0_; have HB := n1_; clear n0_ n1_; clear hb ho4))
  go_loopg [5, 6] k (fun kq v5 v6 w' => ∃ (x5_1 : List Int) (x6_1 : Int), v6 = .int .i64 x6_1 ∧ Aside0 (spec_l12Below.l0 kq l0 a1 x5_1 x6_1 = some r) ∧ Aside0 (kq ≤ k) ∧ Aside0 (Kd.R (Kd.int .i64) 2 w' w.heap.size (fun _ => True) v5 x5_1) ∧ Aside0 (Below w.heap.size w w'))
  case atStart => exact ⟨(y268), (0), (by first | rfl | (simp; done) | (simp [*]; done)), H', ⟨Nat.le_refl _⟩, ⟨by (with_reducible repeat (first | apply Kd.R_alloc | apply Kd.R_drewN | apply Kd.R_drew)); exact HO270.out⟩, ⟨by repeat (first | (with_reducible first | exact HB.out | apply below_alloc | apply pw_below_drewN | apply below_drew1) | exact HB.out)⟩⟩
  case round =>
    clear H'
    try clear c1
    try clear p2
    obtain ⟨x5_1, x6_1, rfl, HA, HK1, HO_5, HB⟩ := hrel
    cases gk with
    | zero => exact absurd HA.out (by simp [spec_l12Below.l0])
    | succ k1 =>
      have H := HA.out
      clear HA
      simp only [spec_l12Below.l0] at H
      by_cases c5 : x6_1 < (l0.length : Int)
      · rw [if_pos c5] at H
        have c5b0 : decide (x6_1 < (l0.length : Int)) = true := decide_eq_true c5
        clear c5
        replace H := Option.bind_eq_some_iff.mp H
        obtain ⟨t271, A60, H⟩ := H
        replace H : ((spec_l01Has.f k1 t271 a1).bind fun t274 => (if t274 = true then (if x5_1.length < 17592186044416 then (spec_l12Below.l0 k1 l0 a1 (x5_1 ++ [x6_1]) (wrap64 (x6_1 + 1))) else (none)) else (spec_l12Below.l0 k1 l0 a1 x5_1 (wrap64 (x6_1 + 1))))) = some r := H
        have A6 := Aside0.mk A60
        clear A60
        replace H := Option.bind_eq_some_iff.mp H
        obtain ⟨t274, A70, H⟩ := H
        replace H : (if t274 = true then (if x5_1.length < 17592186044416 then (spec_l12Below.l0 k1 l0 a1 (x5_1 ++ [x6_1]) (wrap64 (x6_1 + 1))) else (none)) else (spec_l12Below.l0 k1 l0 a1 x5_1 (wrap64 (x6_1 + 1)))) = some r := H
        have A7 := Aside0.mk A70
        clear A70
        by_cases c8 : t274 = true
        · subst c8
          have H1 : (if x5_1.length < 17592186044416 then (spec_l12Below.l0 k1 l0 a1 (x5_1 ++ [x6_1]) (wrap64 (x6_1 + 1))) else (none)) = some r := by rw [if_pos rfl] at H; exact H
          clear H
          have H := H1
          clear H1
          by_cases c9 : x5_1.length < 17592186044416
          · rw [if_pos c9] at H
            have LMc9 := Aside0.mk c9
            clear c9
            obtain ⟨y275, hy275⟩ : ∃ y_ : List Int, y_ = (x5_1 ++ [x6_1]) := ⟨_, rfl⟩
            replace H : (spec_l12Below.l0 k1 l0 a1 y275 (wrap64 (x6_1 + 1))) = some r := by first | (rw [hy275]; with_reducible exact H) | (have H2_ := (Option.bind_some _ _).symm.trans H; rw [hy275]; with_reducible exact H2_) | (have H2_ := (Option.bind_some _ _).symm.trans H; with_reducible exact H2_) | with_reducible exact H | (rw [hy275]; exact H) | exact H
            have Ny275 := Aside0.mk hy275
            clear hy275
            have H' := Aside0.mk H
            clear H
            go_wp2_with (first | ((with_reducible refine gate_callee (f := 116) rfl ?_); refine goesL_ (some 16) rfl rfl Try.func116 (by kernel_rfl) rfl #[.slice A0 l0.length c0, .int .i64 x6_1] rfl (by (try simp only [List.map_toArray, List.map_cons, List.map_nil]); first | done | rfl | (simp only [List.length_drop, List.length_take]; rfl)) ?_; (with_reducible refine (spec_l12Way.calls k1 _ _ l0 x6_1 t271 _ ?side1 ?side2 A6.out).mono ?_); (case side1 => repeat (first | exact (Kd.C_below HR0.out HB.out) | (with_reducible refine Kd.C_alloc ?_ _) | (with_reducible refine Kd.C_drewN ?_ _) | (with_reducible refine Kd.C_drew ?_))); (case side2 => exact HC0.out); rintro e w10 ⟨v272, rfl, ho0, hb⟩; refine ⟨_, rfl, ?_⟩; have n0_ := Aside0.mk (Kd.R_elder' (by (with_reducible repeat (first | apply Kd.R_alloc | apply Kd.R_drewN | apply Kd.R_drew)); exact HO_5.out) (Kd.R_base ho0) hb); have n1_ := Aside0.mk (Kd.R_lower (Kd.R_new' ho0 (Kd.R_lt (by (with_reducible repeat (first | apply Kd.R_alloc | apply Kd.R_drewN | apply Kd.R_drew)); exact HO_5.out))) (below_size (by repeat (first | (with_reducible first | exact HB.out | apply below_alloc | apply pw_below_drewN | apply below_drew1) | exact HB.out)))); have n2_ := Aside0.mk (below_step (by repeat (first | (with_reducible first | exact HB.out | apply below_alloc | apply pw_below_drewN | apply below_drew1) | exact HB.out)) hb); clear HO_5; clear HB; have HO_5 := n0_; have HO273 := n1_; have HB := n2_; clear n0_ n1_ n2_; (try clear hb); (try clear hb2); (try clear hk); (try clear hi); (try clear ho0); obtain ⟨Ao11, co11, eo11⟩ := Kd.R_slice HO273.out; subst eo11) | ((with_reducible refine gate_callee (f := 140) rfl ?_); refine goesL_ (some 18) rfl rfl Try.func140 (by kernel_rfl) rfl #[.slice Ao11 t271.length co11, .int .i64 a1] rfl (by (try simp only [List.map_toArray, List.map_cons, List.map_nil]); first | done | rfl | (simp only [List.length_drop, List.length_take]; rfl)) ?_; (with_reducible refine (spec_l01Has.calls k1 _ _ t271 a1 true _ ?side1 ?side2 A7.out).mono ?_); (case side1 => repeat (first | exact (Kd.R_reads' HO273.out).2.2 | (with_reducible refine Kd.C_alloc ?_ _) | (with_reducible refine Kd.C_drewN ?_ _) | (with_reducible refine Kd.C_drew ?_))); (case side2 => exact (Kd.R_reads' HO273.out).2.1); rintro e w' ⟨rfl, ⟨nd, rfl⟩⟩; refine ⟨_, rfl, ?_⟩) | ((with_reducible refine gate_builtin (b := .append) (xs := #[.tmp 19, .tmp 21]) rfl ?_); at_builtin; refine Kd.R_append (Kd.int .i64) (w0 := w) w.heap.size rfl (.tmp 19) (.tmp 21) 24 2 (.int .i64 0) 8 rfl Try.underlying24 info2 rfl (by decide) (by omega) u5 x5_1 x6_1 [.int .i64 x6_1] (fun k_ => some k_ ≠ (.slice Ao11 t271.length co11 : Value).ownBlock) (fun _ => False) rfl rfl ?aP (fun _ hk => hk.elim) ?aF ?aO ?aB ?aS ?aL ?_; (case aP => exact rfl); (case aB => exact (by repeat (first | (with_reducible first | exact HB.out | apply below_alloc | apply pw_below_drewN | apply below_drew1) | exact HB.out))); (case aF => exact (fun k_ hk => Kd.fresh' (Kd.R_lt (by (with_reducible repeat (first | apply Kd.R_alloc | apply Kd.R_drewN | apply Kd.R_drew)); exact HO273.out)) k_ hk)); (case aO => exact (by (with_reducible repeat (first | apply Kd.R_alloc | apply Kd.R_drewN | apply Kd.R_drew)); exact Kd.R_mono HO_5.out (fun _ hk => hk.2))); (case aS => exact (below_size (by repeat (first | (with_reducible first | exact HB.out | apply below_alloc | apply pw_below_drewN | apply below_drew1) | exact HB.out)))); (case aL => have := LMc9.out; omega); intro v276 w12 ho hb hg hat; rw [← Ny275.out] at ho; have n0_ := Aside0.mk (Kd.R_after (ok := (fun _ => True)) (by (with_reducible repeat (first | apply Kd.R_alloc | apply Kd.R_drewN | apply Kd.R_drew)); exact HO273.out) hg hat); have n1_ := Aside0.mk (hb); have n2_ := Aside0.mk (ho); clear HO273; clear HB; clear HO_5; have HO273 := n0_; have HB := n1_; have HO277 := n2_; clear n0_ n1_ n2_; clear ho hb hg hat))
            go_roundg k1
            case measure => have := HK1.out; omega
            case rel => exact ⟨(y275), (wrap64 (x6_1 + 1)), (by first | rfl | (simp; done) | (simp [*]; done)), H', ⟨by have := HK1.out; omega⟩, ⟨by (with_reducible repeat (first | apply Kd.R_alloc | apply Kd.R_drewN | apply Kd.R_drew)); exact Kd.R_mono HO277.out (fun _ hk => trivial)⟩, ⟨by repeat (first | (with_reducible first | exact HB.out | apply below_alloc | apply pw_below_drewN | apply below_drew1) | exact HB.out)⟩⟩
          · rw [if_neg c9] at H
            exact absurd H (by simp)
        · replace c8 := Bool.eq_false_iff.mpr c8
          subst c8
          have H1 : (spec_l12Below.l0 k1 l0 a1 x5_1 (wrap64 (x6_1 + 1))) = some r := by rw [if_neg (show ¬ (false = true) by decide)] at H; exact H
          clear H
          have H := H1
          clear H1
          have H' := Aside0.mk H
          clear H
          go_wp2_with (first | ((with_reducible refine gate_callee (f := 116) rfl ?_); refine goesL_ (some 16) rfl rfl Try.func116 (by kernel_rfl) rfl #[.slice A0 l0.length c0, .int .i64 x6_1] rfl (by (try simp only [List.map_toArray, List.map_cons, List.map_nil]); first | done | rfl | (simp only [List.length_drop, List.length_take]; rfl)) ?_; (with_reducible refine (spec_l12Way.calls k1 _ _ l0 x6_1 t271 _ ?side1 ?side2 A6.out).mono ?_); (case side1 => repeat (first | exact (Kd.C_below HR0.out HB.out) | (with_reducible refine Kd.C_alloc ?_ _) | (with_reducible refine Kd.C_drewN ?_ _) | (with_reducible refine Kd.C_drew ?_))); (case side2 => exact HC0.out); rintro e w13 ⟨v272, rfl, ho0, hb⟩; refine ⟨_, rfl, ?_⟩; have n0_ := Aside0.mk (Kd.R_elder' (by (with_reducible repeat (first | apply Kd.R_alloc | apply Kd.R_drewN | apply Kd.R_drew)); exact HO_5.out) (Kd.R_base ho0) hb); have n1_ := Aside0.mk (Kd.R_lower (Kd.R_new' ho0 (Kd.R_lt (by (with_reducible repeat (first | apply Kd.R_alloc | apply Kd.R_drewN | apply Kd.R_drew)); exact HO_5.out))) (below_size (by repeat (first | (with_reducible first | exact HB.out | apply below_alloc | apply pw_below_drewN | apply below_drew1) | exact HB.out)))); have n2_ := Aside0.mk (below_step (by repeat (first | (with_reducible first | exact HB.out | apply below_alloc | apply pw_below_drewN | apply below_drew1) | exact HB.out)) hb); clear HO_5; clear HB; have HO_5 := n0_; have HO273 := n1_; have HB := n2_; clear n0_ n1_ n2_; (try clear hb); (try clear hb2); (try clear hk); (try clear hi); (try clear ho0); obtain ⟨Ao14, co14, eo14⟩ := Kd.R_slice HO273.out; subst eo14) | ((with_reducible refine gate_callee (f := 140) rfl ?_); refine goesL_ (some 18) rfl rfl Try.func140 (by kernel_rfl) rfl #[.slice Ao14 t271.length co14, .int .i64 a1] rfl (by (try simp only [List.map_toArray, List.map_cons, List.map_nil]); first | done | rfl | (simp only [List.length_drop, List.length_take]; rfl)) ?_; (with_reducible refine (spec_l01Has.calls k1 _ _ t271 a1 false _ ?side1 ?side2 A7.out).mono ?_); (case side1 => repeat (first | exact (Kd.R_reads' HO273.out).2.2 | (with_reducible refine Kd.C_alloc ?_ _) | (with_reducible refine Kd.C_drewN ?_ _) | (with_reducible refine Kd.C_drew ?_))); (case side2 => exact (Kd.R_reads' HO273.out).2.1); rintro e w' ⟨rfl, ⟨nd, rfl⟩⟩; refine ⟨_, rfl, ?_⟩))
          go_roundg k1
          case measure => have := HK1.out; omega
          case rel => exact ⟨(x5_1), (wrap64 (x6_1 + 1)), (by first | rfl | (simp; done) | (simp [*]; done)), H', ⟨by have := HK1.out; omega⟩, ⟨by (with_reducible repeat (first | apply Kd.R_alloc | apply Kd.R_drewN | apply Kd.R_drew)); exact Kd.R_mono HO_5.out (fun _ hk => trivial)⟩, ⟨by repeat (first | (with_reducible first | exact HB.out | apply below_alloc | apply pw_below_drewN | apply below_drew1) | exact HB.out)⟩⟩
      · rw [if_neg c5] at H
        have c5b0 : decide (x6_1 < (l0.length : Int)) = false := decide_eq_false c5
        clear c5
        obtain rfl := Option.some.inj H
        go_wp2
        go_ret
        exact ⟨_, by first | rfl | (simp [errW_none, errW_some] <;> rfl) | (simp [*, errW_none, errW_some] <;> rfl), by (with_reducible repeat (first | apply Kd.R_alloc | apply Kd.R_drewN | apply Kd.R_drew)); exact HO_5.out, by repeat (first | (with_reducible first | exact HB.out | apply below_alloc | apply pw_below_drewN | apply below_drew1) | exact HB.out)⟩
def spec_ModulesBelow.f (k : Nat) (l0 : List (S47)) (a1 : Int) : Option (List Int × Int) := (spec_l12Code.f k l0 a1).bind fun t278 => (if t278 = 0 then ((spec_l12Below.f k l0 a1).bind fun t279 => (some (t279, 0))) else (some (([] : List Int), t278)))
theorem spec_ModulesBelow.mono : ∀ a0 a1 k, LeO (spec_ModulesBelow.f k a0 a1) (spec_ModulesBelow.f (k + 1) a0 a1) := by
  intro a0 a1 k
  unfold spec_ModulesBelow.f
  repeat' first
      | (with_reducible exact spec_l12Below.mono _ _ _)
      | (with_reducible exact spec_l12Code.mono _ _ _)
      | (with_reducible exact LeO.refl _)
      | (with_reducible exact LeO.none _)
      | (with_reducible refine LeO.ite ?_ ?_)
      | (with_reducible refine LeO.bind ?_ (fun _ => ?_))
      | exact spec_l12Below.mono _ _ _
      | exact spec_l12Code.mono _ _ _
      | exact LeO.none _
      | refine LeO.ite ?_ ?_
      | refine LeO.bind ?_ (fun _ => ?_)
set_option maxHeartbeats 8000000 in
set_option maxRecDepth 100000 in
theorem spec_ModulesBelow.calls (k : Nat) (A0 : Option Addr) (c0 : Nat) (l0 : List (S47)) (a1 : Int) (r1 : List Int) (r2 : Int) (w : World) (hr0 : Kd.C k47 w A0 l0.length l0) (hc0 : l0.length ≤ c0) (h : spec_ModulesBelow.f k l0 a1 = some (r1, r2)) :
    Calls Try.prog 35 #[.slice A0 l0.length c0, .int .i64 a1] w fun e w' => ∃ v0_ : Value, e = .returned (.tuple #[v0_, .int .i64 r2]) ∧ Kd.R (Kd.int .i64) 2 w' w.heap.size (fun _ => True) v0_ r1 ∧ Below w.heap.size w w' := by
  have HR0 := Aside0.mk hr0
  have HC0 := Aside0.mk hc0
  clear hr0 hc0
  have HB := Aside0.mk (Below.refl w.heap.size w)
  have H : ((spec_l12Code.f k l0 a1).bind fun t278 => (if t278 = 0 then ((spec_l12Below.f k l0 a1).bind fun t279 => (some (t279, 0))) else (some (([] : List Int), t278)))) = some (r1, r2) := h
  clear h
  replace H := Option.bind_eq_some_iff.mp H
  obtain ⟨t278, A30, H⟩ := H
  replace H : (if t278 = 0 then ((spec_l12Below.f k l0 a1).bind fun t279 => (some (t279, 0))) else (some (([] : List Int), t278))) = some (r1, r2) := H
  have A3 := Aside0.mk A30
  clear A30
  by_cases c4 : t278 = 0
  · rw [if_pos c4] at H
    have c4b0 : (t278 == 0) = true := beq_iff_eq.mpr c4
    have c4b1 : (t278 != 0) = false := bne_eq_false_iff_eq.mpr c4
    clear c4
    replace H := Option.bind_eq_some_iff.mp H
    obtain ⟨t279, A50, H⟩ := H
    replace H : (some (t279, 0)) = some (r1, r2) := H
    have A5 := Aside0.mk A50
    clear A50
    simp only [Option.some.injEq, Prod.mk.injEq] at H
    obtain ⟨rfl, rfl⟩ := H
    go_enter Try.func35, Try.ntmps35
    go_wp2_with (first | ((with_reducible refine gate_callee (f := 115) rfl ?_); refine goesL_ (some 9) rfl rfl Try.func115 (by kernel_rfl) rfl #[.slice A0 l0.length c0, .int .i64 a1] rfl (by (try simp only [List.map_toArray, List.map_cons, List.map_nil]); first | done | rfl | (simp only [List.length_drop, List.length_take]; rfl)) ?_; (with_reducible refine (spec_l12Code.calls k _ _ l0 a1 t278 _ ?side1 ?side2 A3.out).mono ?_); (case side1 => repeat (first | exact HR0.out | (with_reducible refine Kd.C_alloc ?_ _) | (with_reducible refine Kd.C_drewN ?_ _) | (with_reducible refine Kd.C_drew ?_))); (case side2 => exact HC0.out); rintro e w' ⟨rfl, ⟨nd, rfl⟩⟩; refine ⟨_, rfl, ?_⟩) | ((with_reducible refine gate_callee (f := 118) rfl ?_); refine goesL_ (some 15) rfl rfl Try.func118 (by kernel_rfl) rfl #[.slice A0 l0.length c0, .int .i64 a1] rfl (by (try simp only [List.map_toArray, List.map_cons, List.map_nil]); first | done | rfl | (simp only [List.length_drop, List.length_take]; rfl)) ?_; (with_reducible refine (spec_l12Below.calls k _ _ l0 a1 t279 _ ?side1 ?side2 A5.out).mono ?_); (case side1 => repeat (first | exact HR0.out | (with_reducible refine Kd.C_alloc ?_ _) | (with_reducible refine Kd.C_drewN ?_ _) | (with_reducible refine Kd.C_drew ?_))); (case side2 => exact HC0.out); rintro e w6 ⟨v280, rfl, ho0, hb⟩; refine ⟨_, rfl, ?_⟩; have n0_ := Aside0.mk (Kd.R_lower ho0 (below_size (by repeat (first | (with_reducible first | exact HB.out | apply below_alloc | apply pw_below_drewN | apply below_drew1) | exact HB.out)))); have n1_ := Aside0.mk (below_step (by repeat (first | (with_reducible first | exact HB.out | apply below_alloc | apply pw_below_drewN | apply below_drew1) | exact HB.out)) hb); clear HB; have HO281 := n0_; have HB := n1_; clear n0_ n1_; (try clear hb); (try clear hb2); (try clear hk); (try clear hi); (try clear ho0)))
    go_ret2
    exact ⟨_, by first | rfl | (simp [errW_none, errW_some] <;> rfl) | (simp [*, errW_none, errW_some] <;> rfl), by (with_reducible repeat (first | apply Kd.R_alloc | apply Kd.R_drewN | apply Kd.R_drew)); exact HO281.out, by repeat (first | (with_reducible first | exact HB.out | apply below_alloc | apply pw_below_drewN | apply below_drew1) | exact HB.out)⟩
  · rw [if_neg c4] at H
    have c4b0 : (t278 == 0) = false := beq_eq_false_iff_ne.mpr c4
    have c4b1 : (t278 != 0) = true := bne_iff_ne.mpr c4
    simp only [Option.some.injEq, Prod.mk.injEq] at H
    obtain ⟨rfl, rfl⟩ := H
    go_enter Try.func35, Try.ntmps35
    go_wp2_with (first | ((with_reducible refine gate_callee (f := 115) rfl ?_); refine goesL_ (some 9) rfl rfl Try.func115 (by kernel_rfl) rfl #[.slice A0 l0.length c0, .int .i64 a1] rfl (by (try simp only [List.map_toArray, List.map_cons, List.map_nil]); first | done | rfl | (simp only [List.length_drop, List.length_take]; rfl)) ?_; (with_reducible refine (spec_l12Code.calls k _ _ l0 a1 t278 _ ?side1 ?side2 A3.out).mono ?_); (case side1 => repeat (first | exact HR0.out | (with_reducible refine Kd.C_alloc ?_ _) | (with_reducible refine Kd.C_drewN ?_ _) | (with_reducible refine Kd.C_drew ?_))); (case side2 => exact HC0.out); rintro e w' ⟨rfl, ⟨nd, rfl⟩⟩; refine ⟨_, rfl, ?_⟩))
    go_ret2
    exact ⟨_, by first | rfl | (simp [errW_none, errW_some] <;> rfl) | (simp [*, errW_none, errW_some] <;> rfl), by first | exact Kd.R_nil _ _ _ _ _ | exact Kd.N_nil _ _ _ _ _ | exact Kd.V_nil _ _ _ _ _ | exact Kd.Q_nil _ _ _ _ _ | exact Kd.S_nil _ _ _ _ _, by repeat (first | (with_reducible first | exact HB.out | apply below_alloc | apply pw_below_drewN | apply below_drew1) | exact HB.out)⟩
def impl_PinsBelow.l0 : Nat → List (S47) → Int → List Bool → Int → Int → Option (Int × Int)
  | 0, _, _, _, _, _ => none
  | k + 1, x0, x7, x19, x20, x21 => if x21 < x20 then (if 0 ≤ x21 then (if x21 < (x19.length : Int) then (if rdOf false x19 x21 = true then (if x21 < (x0.length : Int) then (impl_PinsBelow.l0 k x0 (wrap64 (x7 + ((rd_T47 x0 x21).f1))) x19 x20 (wrap64 (x21 + 1))) else (none)) else (impl_PinsBelow.l0 k x0 x7 x19 x20 (wrap64 (x21 + 1)))) else (none)) else (none)) else (some (x7, 0))
def impl_PinsBelow.f (k : Nat) (l0 : List (S47)) (a1 : Int) : Option (Int × Int) := (impl_moduleAsked.f k l0 (([a1] : List Int))).bind fun t285 => (if t285 = 0 then ((impl_isBelow.f k l0 a1).bind fun t286 => (impl_PinsBelow.l0 k l0 0 t286 (t286.length : Int) 0)) else (some (0, t285)))
theorem impl_PinsBelow.mono_l : ∀ k, (∀ y0 y1 y2 y3 y4, LeO (impl_PinsBelow.l0 k y0 y1 y2 y3 y4) (impl_PinsBelow.l0 (k + 1) y0 y1 y2 y3 y4))
  | 0 => fun _ _ _ _ _ r h => by simp [impl_PinsBelow.l0] at h
  | k + 1 => by
    have ih0 := impl_PinsBelow.mono_l k
    · intro y0 y1 y2 y3 y4
      unfold impl_PinsBelow.l0
      repeat' first
      | (with_reducible exact ih0 _ _ _ _ _)
      | (with_reducible exact impl_isBelow.mono _ _ _)
      | (with_reducible exact impl_moduleAsked.mono _ _ _)
      | (with_reducible exact LeO.refl _)
      | (with_reducible exact LeO.none _)
      | (with_reducible refine LeO.ite ?_ ?_)
      | (with_reducible refine LeO.bind ?_ (fun _ => ?_))
      | exact ih0 _ _ _ _ _
      | exact impl_isBelow.mono _ _ _
      | exact impl_moduleAsked.mono _ _ _
      | exact LeO.none _
      | refine LeO.ite ?_ ?_
      | refine LeO.bind ?_ (fun _ => ?_)
theorem impl_PinsBelow.mono : ∀ a0 a1 k, LeO (impl_PinsBelow.f k a0 a1) (impl_PinsBelow.f (k + 1) a0 a1) := by
  intro a0 a1 k
  have ih0 := impl_PinsBelow.mono_l k
  unfold impl_PinsBelow.f
  repeat' first
      | (with_reducible exact ih0 _ _ _ _ _)
      | (with_reducible exact impl_isBelow.mono _ _ _)
      | (with_reducible exact impl_moduleAsked.mono _ _ _)
      | (with_reducible exact LeO.refl _)
      | (with_reducible exact LeO.none _)
      | (with_reducible refine LeO.ite ?_ ?_)
      | (with_reducible refine LeO.bind ?_ (fun _ => ?_))
      | exact ih0 _ _ _ _ _
      | exact impl_isBelow.mono _ _ _
      | exact impl_moduleAsked.mono _ _ _
      | exact LeO.none _
      | refine LeO.ite ?_ ?_
      | refine LeO.bind ?_ (fun _ => ?_)
set_option maxHeartbeats 8000000 in
set_option maxRecDepth 100000 in
theorem impl_PinsBelow.calls (k : Nat) (A0 : Option Addr) (c0 : Nat) (l0 : List (S47)) (a1 : Int) (r1 : Int) (r2 : Int) (w : World) (hr0 : Kd.C k47 w A0 l0.length l0) (hc0 : l0.length ≤ c0) (h : impl_PinsBelow.f k l0 a1 = some (r1, r2)) :
    Calls Try.prog 36 #[.slice A0 l0.length c0, .int .i64 a1] w fun e w' => e = .returned (.tuple #[.int .i64 r1, .int .i64 r2]) ∧ Below w.heap.size w w' := by
  have HR0 := Aside0.mk hr0
  have HC0 := Aside0.mk hc0
  clear hr0 hc0
  have HB := Aside0.mk (Below.refl w.heap.size w)
  have H : ((impl_moduleAsked.f k l0 (([a1] : List Int))).bind fun t285 => (if t285 = 0 then ((impl_isBelow.f k l0 a1).bind fun t286 => (impl_PinsBelow.l0 k l0 0 t286 (t286.length : Int) 0)) else (some (0, t285)))) = some (r1, r2) := h
  clear h
  obtain ⟨y282, hy282⟩ : ∃ y_ : List Int, y_ = (([a1] : List Int)) := ⟨_, rfl⟩
  replace H : ((impl_moduleAsked.f k l0 y282).bind fun t285 => (if t285 = 0 then ((impl_isBelow.f k l0 a1).bind fun t286 => (impl_PinsBelow.l0 k l0 0 t286 (t286.length : Int) 0)) else (some (0, t285)))) = some (r1, r2) := by first | (rw [hy282]; with_reducible exact H) | (have H2_ := (Option.bind_some _ _).symm.trans H; rw [hy282]; with_reducible exact H2_) | (have H2_ := (Option.bind_some _ _).symm.trans H; with_reducible exact H2_) | with_reducible exact H | (rw [hy282]; exact H) | exact H
  have Ny282 := Aside0.mk hy282
  clear hy282
  replace H := Option.bind_eq_some_iff.mp H
  obtain ⟨t285, A30, H⟩ := H
  replace H : (if t285 = 0 then ((impl_isBelow.f k l0 a1).bind fun t286 => (impl_PinsBelow.l0 k l0 0 t286 (t286.length : Int) 0)) else (some (0, t285))) = some (r1, r2) := H
  have A3 := Aside0.mk A30
  clear A30
  by_cases c4 : t285 = 0
  · rw [if_pos c4] at H
    have c4b0 : (t285 == 0) = true := beq_iff_eq.mpr c4
    have c4b1 : (t285 != 0) = false := bne_eq_false_iff_eq.mpr c4
    clear c4
    replace H := Option.bind_eq_some_iff.mp H
    obtain ⟨t286, A50, H⟩ := H
    replace H : (impl_PinsBelow.l0 k l0 0 t286 (t286.length : Int) 0) = some (r1, r2) := H
    have A5 := Aside0.mk A50
    clear A50
    have H' := Aside0.mk H
    clear H
    go_enter Try.func36, Try.ntmps36
    go_wp2_with (first | ((with_reducible refine gate_dst (N := 12) rfl ?_); refine Kd.R_lit (Kd.int .i64) _ 2 ?hg (N := 12) ?hd (xs := ([a1] : List Int)) (inner := [.int .i64 a1]) (ok := fun _ => True) (okp := fun _ => True) ?hr ?hp (fun _ hk => hk) trivial (Below.refl _ _) (Nat.le_refl _) (by simp) ?_; (case hd => rfl); (case hg => rfl); (case hr => first | (go_simp; done) | (go_simp; rfl)); (case hp => exact (Reps.one (show Kd.M (Kd.int .i64) _ _ _ a1 [.int .i64 a1] from rfl) (Reps.none _ _))); intro v283 w6 ho7 hb hg_ hnew_; clear hg_ hnew_; (first | rw [← Ny282.out] at ho7 | (simp only [Int.reduceToNat] at ho7; rw [← Ny282.out] at ho7)); have n0_ := Aside0.mk (Kd.R_lower ho7 (below_size (by repeat (first | (with_reducible first | exact HB.out | apply below_alloc | apply pw_below_drewN | apply below_drew1) | exact HB.out)))); have n1_ := Aside0.mk (below_step (by repeat (first | (with_reducible first | exact HB.out | apply below_alloc | apply pw_below_drewN | apply below_drew1) | exact HB.out)) hb); clear HB; have HO284 := n0_; have HB := n1_; clear n0_ n1_; clear hb ho7; obtain ⟨Ao8, co8, eo8⟩ := Kd.R_slice HO284.out; subst eo8) | ((with_reducible refine gate_callee (f := 113) rfl ?_); refine goesL_ (some 13) rfl rfl Try.func113 (by kernel_rfl) rfl #[.slice A0 l0.length c0, .slice Ao8 y282.length co8] rfl (by (try simp only [List.map_toArray, List.map_cons, List.map_nil]); first | done | rfl | (simp only [List.length_drop, List.length_take]; rfl)) ?_; (with_reducible refine (impl_moduleAsked.calls k _ _ l0 _ _ y282 t285 _ ?side1 ?side2 ?side3 ?side4 A3.out).mono ?_); (case side1 => repeat (first | exact (Kd.C_below HR0.out HB.out) | (with_reducible refine Kd.C_alloc ?_ _) | (with_reducible refine Kd.C_drewN ?_ _) | (with_reducible refine Kd.C_drew ?_))); (case side2 => exact HC0.out); (case side3 => repeat (first | exact (Kd.R_reads' HO284.out).2.2 | (with_reducible refine Kd.C_alloc ?_ _) | (with_reducible refine Kd.C_drewN ?_ _) | (with_reducible refine Kd.C_drew ?_))); (case side4 => exact (Kd.R_reads' HO284.out).2.1); rintro e w9 ⟨rfl, hb⟩; refine ⟨_, rfl, ?_⟩; have n0_ := Aside0.mk (Kd.R_below (by (with_reducible repeat (first | apply Kd.R_alloc | apply Kd.R_drewN | apply Kd.R_drew)); exact HO284.out) hb); have n1_ := Aside0.mk (below_step (by repeat (first | (with_reducible first | exact HB.out | apply below_alloc | apply pw_below_drewN | apply below_drew1) | exact HB.out)) hb); clear HO284; clear HB; have HO284 := n0_; have HB := n1_; clear n0_ n1_; (try clear hb); (try clear hb2); (try clear hk); (try clear hi)) | ((with_reducible refine gate_callee (f := 117) rfl ?_); refine goesL_ (some 19) rfl rfl Try.func117 (by kernel_rfl) rfl #[.slice A0 l0.length c0, .int .i64 a1] rfl (by (try simp only [List.map_toArray, List.map_cons, List.map_nil]); first | done | rfl | (simp only [List.length_drop, List.length_take]; rfl)) ?_; (with_reducible refine (impl_isBelow.calls k _ _ l0 a1 t286 _ ?side1 ?side2 A5.out).mono ?_); (case side1 => repeat (first | exact (Kd.C_below HR0.out HB.out) | (with_reducible refine Kd.C_alloc ?_ _) | (with_reducible refine Kd.C_drewN ?_ _) | (with_reducible refine Kd.C_drew ?_))); (case side2 => exact HC0.out); rintro e w10 ⟨v287, rfl, ho0, hb⟩; refine ⟨_, rfl, ?_⟩; have n0_ := Aside0.mk (Kd.R_below (by (with_reducible repeat (first | apply Kd.R_alloc | apply Kd.R_drewN | apply Kd.R_drew)); exact HO284.out) hb); have n1_ := Aside0.mk (Kd.R_lower ho0 (below_size (by repeat (first | (with_reducible first | exact HB.out | apply below_alloc | apply pw_below_drewN | apply below_drew1) | exact HB.out)))); have n2_ := Aside0.mk (below_step (by repeat (first | (with_reducible first | exact HB.out | apply below_alloc | apply pw_below_drewN | apply below_drew1) | exact HB.out)) hb); clear HO284; clear HB; have HO284 := n0_; have HO288 := n1_; have HB := n2_; clear n0_ n1_ n2_; (try clear hb); (try clear hb2); (try clear hk); (try clear hi); (try clear ho0); obtain ⟨Ao11, co11, eo11⟩ := Kd.R_slice HO288.out; subst eo11))
    go_loopg [7, 21] k (fun kq v7 v21 w' => ∃ (x7_1 : Int) (x21_1 : Int), v7 = .int .i64 x7_1 ∧ v21 = .int .i64 x21_1 ∧ Aside0 (impl_PinsBelow.l0 kq l0 x7_1 t286 (t286.length : Int) x21_1 = some (r1, r2)) ∧ Aside0 (kq ≤ k) ∧ Aside0 (Kd.R Kd.bool 4 w' w.heap.size (fun _ => True) (.slice Ao11 t286.length co11) t286) ∧ Aside0 (Below w.heap.size w w'))
    case atStart => exact ⟨(0), (0), (by first | rfl | (simp; done) | (simp [*]; done)), (by first | rfl | (simp; done) | (simp [*]; done)), H', ⟨Nat.le_refl _⟩, ⟨by (with_reducible repeat (first | apply Kd.R_alloc | apply Kd.R_drewN | apply Kd.R_drew)); exact HO288.out⟩, ⟨by repeat (first | (with_reducible first | exact HB.out | apply below_alloc | apply pw_below_drewN | apply below_drew1) | exact HB.out)⟩⟩
    case round =>
      clear H'
      try clear c1
      try clear p2
      try clear c3
      try clear c4
      try clear c4b0
      try clear c4b1
      try clear c11
      obtain ⟨x7_1, x21_1, rfl, rfl, HA, HK1, HO_19, HB⟩ := hrel
      cases gk with
      | zero => exact absurd HA.out (by simp [impl_PinsBelow.l0])
      | succ k1 =>
        have H := HA.out
        clear HA
        simp only [impl_PinsBelow.l0] at H
        by_cases c12 : x21_1 < (t286.length : Int)
        · rw [if_pos c12] at H
          have c12b0 : decide (x21_1 < (t286.length : Int)) = true := decide_eq_true c12
          clear c12
          by_cases c13 : 0 ≤ x21_1
          · rw [if_pos c13] at H
            have c13b0 : decide (0 ≤ x21_1) = true := decide_eq_true c13
            clear c13
            by_cases c14 : x21_1 < (t286.length : Int)
            · rw [if_pos c14] at H
              have c14b0 : decide (x21_1 < (t286.length : Int)) = true := decide_eq_true c14
              clear c14
              obtain ⟨bq15, hbq15⟩ : ∃ b_ : Bool, b_ = (rdOf false t286 x21_1) := ⟨_, rfl⟩
              replace H : (if bq15 = true then (if x21_1 < (l0.length : Int) then (impl_PinsBelow.l0 k1 l0 (wrap64 (x7_1 + ((rd_T47 l0 x21_1).f1))) t286 (t286.length : Int) (wrap64 (x21_1 + 1))) else (none)) else (impl_PinsBelow.l0 k1 l0 x7_1 t286 (t286.length : Int) (wrap64 (x21_1 + 1)))) = some (r1, r2) := by rw [← hbq15] at H; exact H
              have Nbq15 := Aside0.mk hbq15
              clear hbq15
              by_cases c16 : bq15 = true
              · subst c16
                have H1 : (if x21_1 < (l0.length : Int) then (impl_PinsBelow.l0 k1 l0 (wrap64 (x7_1 + ((rd_T47 l0 x21_1).f1))) t286 (t286.length : Int) (wrap64 (x21_1 + 1))) else (none)) = some (r1, r2) := by rw [if_pos rfl] at H; exact H
                clear H
                have H := H1
                clear H1
                by_cases c17 : x21_1 < (l0.length : Int)
                · rw [if_pos c17] at H
                  have c17b0 : decide (x21_1 < (l0.length : Int)) = true := decide_eq_true c17
                  clear c17
                  have H' := Aside0.mk H
                  clear H
                  have p289 : 0 ≤ (x21_1 : Int) := of_decide_eq_true (by first | (with_reducible assumption) | assumption)
                  have q289 : x21_1 < (t286.length : Int) := of_decide_eq_true (by first | (with_reducible assumption) | assumption)
                  obtain ⟨ad289, e289, hx289_0⟩ := Kd.at_bool (Kd.R_reads' HO_19.out).2.2 x21_1 p289 q289
                  (try rw [← Nbq15.out] at hx289_0)
                  cases e289
                  replace p289 := eq_true p289
                  replace q289 := eq_true q289
                  have p290 : 0 ≤ (x21_1 : Int) := of_decide_eq_true (by first | (with_reducible assumption) | assumption)
                  have q290 : x21_1 < (l0.length : Int) := of_decide_eq_true (by first | (with_reducible assumption) | assumption)
                  obtain ⟨ad290, e290, hx290_0, hx290_1⟩ := at_T47 HR0.out x21_1 p290 q290
                  cases e290
                  replace hx290_0 := (HB.out.cell (World.block_lt_of_cell? w _ hx290_0)).trans hx290_0
                  replace hx290_1 := (HB.out.cell (World.block_lt_of_cell? w _ hx290_1)).trans hx290_1
                  replace p290 := eq_true p290
                  replace q290 := eq_true q290
                  go_wp2
                  go_roundg k1
                  case measure => have := HK1.out; omega
                  case rel => exact ⟨(wrap64 (x7_1 + ((rd_T47 l0 x21_1).f1))), (wrap64 (x21_1 + 1)), (by first | rfl | (simp; done) | (simp [*]; done)), (by first | rfl | (simp; done) | (simp [*]; done)), H', ⟨by have := HK1.out; omega⟩, ⟨by (with_reducible repeat (first | apply Kd.R_alloc | apply Kd.R_drewN | apply Kd.R_drew)); exact HO_19.out⟩, ⟨by repeat (first | (with_reducible first | exact HB.out | apply below_alloc | apply pw_below_drewN | apply below_drew1) | exact HB.out)⟩⟩
                · rw [if_neg c17] at H
                  exact absurd H (by simp)
              · replace c16 := Bool.eq_false_iff.mpr c16
                subst c16
                have H1 : (impl_PinsBelow.l0 k1 l0 x7_1 t286 (t286.length : Int) (wrap64 (x21_1 + 1))) = some (r1, r2) := by rw [if_neg (show ¬ (false = true) by decide)] at H; exact H
                clear H
                have H := H1
                clear H1
                have H' := Aside0.mk H
                clear H
                have p289 : 0 ≤ (x21_1 : Int) := of_decide_eq_true (by first | (with_reducible assumption) | assumption)
                have q289 : x21_1 < (t286.length : Int) := of_decide_eq_true (by first | (with_reducible assumption) | assumption)
                obtain ⟨ad289, e289, hx289_0⟩ := Kd.at_bool (Kd.R_reads' HO_19.out).2.2 x21_1 p289 q289
                (try rw [← Nbq15.out] at hx289_0)
                cases e289
                replace p289 := eq_true p289
                replace q289 := eq_true q289
                go_wp2
                go_roundg k1
                case measure => have := HK1.out; omega
                case rel => exact ⟨(x7_1), (wrap64 (x21_1 + 1)), (by first | rfl | (simp; done) | (simp [*]; done)), (by first | rfl | (simp; done) | (simp [*]; done)), H', ⟨by have := HK1.out; omega⟩, ⟨by (with_reducible repeat (first | apply Kd.R_alloc | apply Kd.R_drewN | apply Kd.R_drew)); exact HO_19.out⟩, ⟨by repeat (first | (with_reducible first | exact HB.out | apply below_alloc | apply pw_below_drewN | apply below_drew1) | exact HB.out)⟩⟩
            · rw [if_neg c14] at H
              exact absurd H (by simp)
          · rw [if_neg c13] at H
            exact absurd H (by simp)
        · rw [if_neg c12] at H
          have c12b0 : decide (x21_1 < (t286.length : Int)) = false := decide_eq_false c12
          clear c12
          simp only [Option.some.injEq, Prod.mk.injEq] at H
          obtain ⟨rfl, rfl⟩ := H
          go_wp2
          go_ret2
          exact ⟨by first | rfl | (simp [errW_none, errW_some] <;> rfl) | (simp [*, errW_none, errW_some] <;> rfl), by repeat (first | (with_reducible first | exact HB.out | apply below_alloc | apply pw_below_drewN | apply below_drew1) | exact HB.out)⟩
  · rw [if_neg c4] at H
    have c4b0 : (t285 == 0) = false := beq_eq_false_iff_ne.mpr c4
    have c4b1 : (t285 != 0) = true := bne_iff_ne.mpr c4
    simp only [Option.some.injEq, Prod.mk.injEq] at H
    obtain ⟨rfl, rfl⟩ := H
    go_enter Try.func36, Try.ntmps36
    go_wp2_with (first | ((with_reducible refine gate_dst (N := 12) rfl ?_); refine Kd.R_lit (Kd.int .i64) _ 2 ?hg (N := 12) ?hd (xs := ([a1] : List Int)) (inner := [.int .i64 a1]) (ok := fun _ => True) (okp := fun _ => True) ?hr ?hp (fun _ hk => hk) trivial (Below.refl _ _) (Nat.le_refl _) (by simp) ?_; (case hd => rfl); (case hg => rfl); (case hr => first | (go_simp; done) | (go_simp; rfl)); (case hp => exact (Reps.one (show Kd.M (Kd.int .i64) _ _ _ a1 [.int .i64 a1] from rfl) (Reps.none _ _))); intro v283 w18 ho19 hb hg_ hnew_; clear hg_ hnew_; (first | rw [← Ny282.out] at ho19 | (simp only [Int.reduceToNat] at ho19; rw [← Ny282.out] at ho19)); have n0_ := Aside0.mk (Kd.R_lower ho19 (below_size (by repeat (first | (with_reducible first | exact HB.out | apply below_alloc | apply pw_below_drewN | apply below_drew1) | exact HB.out)))); have n1_ := Aside0.mk (below_step (by repeat (first | (with_reducible first | exact HB.out | apply below_alloc | apply pw_below_drewN | apply below_drew1) | exact HB.out)) hb); clear HB; have HO284 := n0_; have HB := n1_; clear n0_ n1_; clear hb ho19; obtain ⟨Ao20, co20, eo20⟩ := Kd.R_slice HO284.out; subst eo20) | ((with_reducible refine gate_callee (f := 113) rfl ?_); refine goesL_ (some 13) rfl rfl Try.func113 (by kernel_rfl) rfl #[.slice A0 l0.length c0, .slice Ao20 y282.length co20] rfl (by (try simp only [List.map_toArray, List.map_cons, List.map_nil]); first | done | rfl | (simp only [List.length_drop, List.length_take]; rfl)) ?_; (with_reducible refine (impl_moduleAsked.calls k _ _ l0 _ _ y282 t285 _ ?side1 ?side2 ?side3 ?side4 A3.out).mono ?_); (case side1 => repeat (first | exact (Kd.C_below HR0.out HB.out) | (with_reducible refine Kd.C_alloc ?_ _) | (with_reducible refine Kd.C_drewN ?_ _) | (with_reducible refine Kd.C_drew ?_))); (case side2 => exact HC0.out); (case side3 => repeat (first | exact (Kd.R_reads' HO284.out).2.2 | (with_reducible refine Kd.C_alloc ?_ _) | (with_reducible refine Kd.C_drewN ?_ _) | (with_reducible refine Kd.C_drew ?_))); (case side4 => exact (Kd.R_reads' HO284.out).2.1); rintro e w21 ⟨rfl, hb⟩; refine ⟨_, rfl, ?_⟩; have n0_ := Aside0.mk (Kd.R_below (by (with_reducible repeat (first | apply Kd.R_alloc | apply Kd.R_drewN | apply Kd.R_drew)); exact HO284.out) hb); have n1_ := Aside0.mk (below_step (by repeat (first | (with_reducible first | exact HB.out | apply below_alloc | apply pw_below_drewN | apply below_drew1) | exact HB.out)) hb); clear HO284; clear HB; have HO284 := n0_; have HB := n1_; clear n0_ n1_; (try clear hb); (try clear hb2); (try clear hk); (try clear hi)))
    go_ret2
    exact ⟨by first | rfl | (simp [errW_none, errW_some] <;> rfl) | (simp [*, errW_none, errW_some] <;> rfl), by repeat (first | (with_reducible first | exact HB.out | apply below_alloc | apply pw_below_drewN | apply below_drew1) | exact HB.out)⟩
def spec_PinsBelow.l0 : Nat → List (S47) → Int → List Int → Int → Option (Int × Int)
  | 0, _, _, _, _ => none
  | k + 1, x0, x7, x8, x9 => if x9 < (x8.length : Int) then (if 0 ≤ x9 then (if 0 ≤ (rd x8 x9) then (if (rd x8 x9) < (x0.length : Int) then (spec_PinsBelow.l0 k x0 (wrap64 (x7 + ((rd_T47 x0 (rd x8 x9)).f1))) x8 (wrap64 (x9 + 1))) else (none)) else (none)) else (none)) else (some (x7, 0))
def spec_PinsBelow.f (k : Nat) (l0 : List (S47)) (a1 : Int) : Option (Int × Int) := (spec_l12Code.f k l0 a1).bind fun t291 => (if t291 = 0 then ((spec_l12Below.f k l0 a1).bind fun t292 => (spec_PinsBelow.l0 k l0 0 t292 0)) else (some (0, t291)))
theorem spec_PinsBelow.mono_l : ∀ k, (∀ y0 y1 y2 y3, LeO (spec_PinsBelow.l0 k y0 y1 y2 y3) (spec_PinsBelow.l0 (k + 1) y0 y1 y2 y3))
  | 0 => fun _ _ _ _ r h => by simp [spec_PinsBelow.l0] at h
  | k + 1 => by
    have ih0 := spec_PinsBelow.mono_l k
    · intro y0 y1 y2 y3
      unfold spec_PinsBelow.l0
      repeat' first
      | (with_reducible exact ih0 _ _ _ _)
      | (with_reducible exact spec_l12Below.mono _ _ _)
      | (with_reducible exact spec_l12Code.mono _ _ _)
      | (with_reducible exact LeO.refl _)
      | (with_reducible exact LeO.none _)
      | (with_reducible refine LeO.ite ?_ ?_)
      | (with_reducible refine LeO.bind ?_ (fun _ => ?_))
      | exact ih0 _ _ _ _
      | exact spec_l12Below.mono _ _ _
      | exact spec_l12Code.mono _ _ _
      | exact LeO.none _
      | refine LeO.ite ?_ ?_
      | refine LeO.bind ?_ (fun _ => ?_)
theorem spec_PinsBelow.mono : ∀ a0 a1 k, LeO (spec_PinsBelow.f k a0 a1) (spec_PinsBelow.f (k + 1) a0 a1) := by
  intro a0 a1 k
  have ih0 := spec_PinsBelow.mono_l k
  unfold spec_PinsBelow.f
  repeat' first
      | (with_reducible exact ih0 _ _ _ _)
      | (with_reducible exact spec_l12Below.mono _ _ _)
      | (with_reducible exact spec_l12Code.mono _ _ _)
      | (with_reducible exact LeO.refl _)
      | (with_reducible exact LeO.none _)
      | (with_reducible refine LeO.ite ?_ ?_)
      | (with_reducible refine LeO.bind ?_ (fun _ => ?_))
      | exact ih0 _ _ _ _
      | exact spec_l12Below.mono _ _ _
      | exact spec_l12Code.mono _ _ _
      | exact LeO.none _
      | refine LeO.ite ?_ ?_
      | refine LeO.bind ?_ (fun _ => ?_)
set_option maxHeartbeats 8000000 in
set_option maxRecDepth 100000 in
theorem spec_PinsBelow.calls (k : Nat) (A0 : Option Addr) (c0 : Nat) (l0 : List (S47)) (a1 : Int) (r1 : Int) (r2 : Int) (w : World) (hr0 : Kd.C k47 w A0 l0.length l0) (hc0 : l0.length ≤ c0) (h : spec_PinsBelow.f k l0 a1 = some (r1, r2)) :
    Calls Try.prog 37 #[.slice A0 l0.length c0, .int .i64 a1] w fun e w' => e = .returned (.tuple #[.int .i64 r1, .int .i64 r2]) ∧ Below w.heap.size w w' := by
  have HR0 := Aside0.mk hr0
  have HC0 := Aside0.mk hc0
  clear hr0 hc0
  have HB := Aside0.mk (Below.refl w.heap.size w)
  have H : ((spec_l12Code.f k l0 a1).bind fun t291 => (if t291 = 0 then ((spec_l12Below.f k l0 a1).bind fun t292 => (spec_PinsBelow.l0 k l0 0 t292 0)) else (some (0, t291)))) = some (r1, r2) := h
  clear h
  replace H := Option.bind_eq_some_iff.mp H
  obtain ⟨t291, A30, H⟩ := H
  replace H : (if t291 = 0 then ((spec_l12Below.f k l0 a1).bind fun t292 => (spec_PinsBelow.l0 k l0 0 t292 0)) else (some (0, t291))) = some (r1, r2) := H
  have A3 := Aside0.mk A30
  clear A30
  by_cases c4 : t291 = 0
  · rw [if_pos c4] at H
    have c4b0 : (t291 == 0) = true := beq_iff_eq.mpr c4
    have c4b1 : (t291 != 0) = false := bne_eq_false_iff_eq.mpr c4
    clear c4
    replace H := Option.bind_eq_some_iff.mp H
    obtain ⟨t292, A50, H⟩ := H
    replace H : (spec_PinsBelow.l0 k l0 0 t292 0) = some (r1, r2) := H
    have A5 := Aside0.mk A50
    clear A50
    have H' := Aside0.mk H
    clear H
    go_enter Try.func37, Try.ntmps37
    go_wp2_with (first | ((with_reducible refine gate_callee (f := 115) rfl ?_); refine goesL_ (some 12) rfl rfl Try.func115 (by kernel_rfl) rfl #[.slice A0 l0.length c0, .int .i64 a1] rfl (by (try simp only [List.map_toArray, List.map_cons, List.map_nil]); first | done | rfl | (simp only [List.length_drop, List.length_take]; rfl)) ?_; (with_reducible refine (spec_l12Code.calls k _ _ l0 a1 t291 _ ?side1 ?side2 A3.out).mono ?_); (case side1 => repeat (first | exact HR0.out | (with_reducible refine Kd.C_alloc ?_ _) | (with_reducible refine Kd.C_drewN ?_ _) | (with_reducible refine Kd.C_drew ?_))); (case side2 => exact HC0.out); rintro e w' ⟨rfl, ⟨nd, rfl⟩⟩; refine ⟨_, rfl, ?_⟩) | ((with_reducible refine gate_callee (f := 118) rfl ?_); refine goesL_ (some 18) rfl rfl Try.func118 (by kernel_rfl) rfl #[.slice A0 l0.length c0, .int .i64 a1] rfl (by (try simp only [List.map_toArray, List.map_cons, List.map_nil]); first | done | rfl | (simp only [List.length_drop, List.length_take]; rfl)) ?_; (with_reducible refine (spec_l12Below.calls k _ _ l0 a1 t292 _ ?side1 ?side2 A5.out).mono ?_); (case side1 => repeat (first | exact HR0.out | (with_reducible refine Kd.C_alloc ?_ _) | (with_reducible refine Kd.C_drewN ?_ _) | (with_reducible refine Kd.C_drew ?_))); (case side2 => exact HC0.out); rintro e w6 ⟨v293, rfl, ho0, hb⟩; refine ⟨_, rfl, ?_⟩; have n0_ := Aside0.mk (Kd.R_lower ho0 (below_size (by repeat (first | (with_reducible first | exact HB.out | apply below_alloc | apply pw_below_drewN | apply below_drew1) | exact HB.out)))); have n1_ := Aside0.mk (below_step (by repeat (first | (with_reducible first | exact HB.out | apply below_alloc | apply pw_below_drewN | apply below_drew1) | exact HB.out)) hb); clear HB; have HO294 := n0_; have HB := n1_; clear n0_ n1_; (try clear hb); (try clear hb2); (try clear hk); (try clear hi); (try clear ho0)))
    go_loopg [7, 9] k (fun kq v7 v9 w' => ∃ (x7_1 : Int) (x9_1 : Int), v7 = .int .i64 x7_1 ∧ v9 = .int .i64 x9_1 ∧ Aside0 (spec_PinsBelow.l0 kq l0 x7_1 t292 x9_1 = some (r1, r2)) ∧ Aside0 (kq ≤ k) ∧ Aside0 (Kd.R (Kd.int .i64) 2 w' w.heap.size (fun _ => True) v293 t292) ∧ Aside0 (Below w.heap.size w w'))
    case atStart => exact ⟨(0), (0), (by first | rfl | (simp; done) | (simp [*]; done)), (by first | rfl | (simp; done) | (simp [*]; done)), H', ⟨Nat.le_refl _⟩, ⟨by (with_reducible repeat (first | apply Kd.R_alloc | apply Kd.R_drewN | apply Kd.R_drew)); exact HO294.out⟩, ⟨by repeat (first | (with_reducible first | exact HB.out | apply below_alloc | apply pw_below_drewN | apply below_drew1) | exact HB.out)⟩⟩
    case round =>
      clear H'
      try clear c1
      try clear p2
      try clear c3
      try clear c4
      try clear c4b0
      try clear c4b1
      obtain ⟨x7_1, x9_1, rfl, rfl, HA, HK1, HO_8, HB⟩ := hrel
      cases gk with
      | zero => exact absurd HA.out (by simp [spec_PinsBelow.l0])
      | succ k1 =>
        have H := HA.out
        clear HA
        simp only [spec_PinsBelow.l0] at H
        by_cases c7 : x9_1 < (t292.length : Int)
        · rw [if_pos c7] at H
          have c7b0 : decide (x9_1 < (t292.length : Int)) = true := decide_eq_true c7
          clear c7
          by_cases c8 : 0 ≤ x9_1
          · rw [if_pos c8] at H
            have c8b0 : decide (0 ≤ x9_1) = true := decide_eq_true c8
            clear c8
            by_cases c9 : 0 ≤ (rd t292 x9_1)
            · rw [if_pos c9] at H
              have c9b0 : decide (0 ≤ (rd t292 x9_1)) = true := decide_eq_true c9
              clear c9
              by_cases c10 : (rd t292 x9_1) < (l0.length : Int)
              · rw [if_pos c10] at H
                have c10b0 : decide ((rd t292 x9_1) < (l0.length : Int)) = true := decide_eq_true c10
                clear c10
                have H' := Aside0.mk H
                clear H
                obtain ⟨Ao11, co11, eo11⟩ := Kd.R_slice HO_8.out
                subst eo11
                have p295 : 0 ≤ (x9_1 : Int) := of_decide_eq_true (by first | (with_reducible assumption) | assumption)
                have q295 : x9_1 < (t292.length : Int) := of_decide_eq_true (by first | (with_reducible assumption) | assumption)
                obtain ⟨ad295, e295, hx295_0⟩ := Kd.at_int (Kd.R_reads' HO_8.out).2.2 x9_1 p295 q295
                cases e295
                replace p295 := eq_true p295
                replace q295 := eq_true q295
                have p296 : 0 ≤ ((rd t292 x9_1) : Int) := of_decide_eq_true (by first | (with_reducible assumption) | assumption)
                have q296 : (rd t292 x9_1) < (l0.length : Int) := of_decide_eq_true (by first | (with_reducible assumption) | assumption)
                obtain ⟨ad296, e296, hx296_0, hx296_1⟩ := at_T47 HR0.out (rd t292 x9_1) p296 q296
                cases e296
                replace hx296_0 := (HB.out.cell (World.block_lt_of_cell? w _ hx296_0)).trans hx296_0
                replace hx296_1 := (HB.out.cell (World.block_lt_of_cell? w _ hx296_1)).trans hx296_1
                replace p296 := eq_true p296
                replace q296 := eq_true q296
                go_wp2
                go_roundg k1
                case measure => have := HK1.out; omega
                case rel => exact ⟨(wrap64 (x7_1 + ((rd_T47 l0 (rd t292 x9_1)).f1))), (wrap64 (x9_1 + 1)), (by first | rfl | (simp; done) | (simp [*]; done)), (by first | rfl | (simp; done) | (simp [*]; done)), H', ⟨by have := HK1.out; omega⟩, ⟨by (with_reducible repeat (first | apply Kd.R_alloc | apply Kd.R_drewN | apply Kd.R_drew)); exact HO_8.out⟩, ⟨by repeat (first | (with_reducible first | exact HB.out | apply below_alloc | apply pw_below_drewN | apply below_drew1) | exact HB.out)⟩⟩
              · rw [if_neg c10] at H
                exact absurd H (by simp)
            · rw [if_neg c9] at H
              exact absurd H (by simp)
          · rw [if_neg c8] at H
            exact absurd H (by simp)
        · rw [if_neg c7] at H
          have c7b0 : decide (x9_1 < (t292.length : Int)) = false := decide_eq_false c7
          clear c7
          simp only [Option.some.injEq, Prod.mk.injEq] at H
          obtain ⟨rfl, rfl⟩ := H
          obtain ⟨Ao12, co12, eo12⟩ := Kd.R_slice HO_8.out
          subst eo12
          go_wp2
          go_ret2
          exact ⟨by first | rfl | (simp [errW_none, errW_some] <;> rfl) | (simp [*, errW_none, errW_some] <;> rfl), by repeat (first | (with_reducible first | exact HB.out | apply below_alloc | apply pw_below_drewN | apply below_drew1) | exact HB.out)⟩
  · rw [if_neg c4] at H
    have c4b0 : (t291 == 0) = false := beq_eq_false_iff_ne.mpr c4
    have c4b1 : (t291 != 0) = true := bne_iff_ne.mpr c4
    simp only [Option.some.injEq, Prod.mk.injEq] at H
    obtain ⟨rfl, rfl⟩ := H
    go_enter Try.func37, Try.ntmps37
    go_wp2_with (first | ((with_reducible refine gate_callee (f := 115) rfl ?_); refine goesL_ (some 12) rfl rfl Try.func115 (by kernel_rfl) rfl #[.slice A0 l0.length c0, .int .i64 a1] rfl (by (try simp only [List.map_toArray, List.map_cons, List.map_nil]); first | done | rfl | (simp only [List.length_drop, List.length_take]; rfl)) ?_; (with_reducible refine (spec_l12Code.calls k _ _ l0 a1 t291 _ ?side1 ?side2 A3.out).mono ?_); (case side1 => repeat (first | exact HR0.out | (with_reducible refine Kd.C_alloc ?_ _) | (with_reducible refine Kd.C_drewN ?_ _) | (with_reducible refine Kd.C_drew ?_))); (case side2 => exact HC0.out); rintro e w' ⟨rfl, ⟨nd, rfl⟩⟩; refine ⟨_, rfl, ?_⟩))
    go_ret2
    exact ⟨by first | rfl | (simp [errW_none, errW_some] <;> rfl) | (simp [*, errW_none, errW_some] <;> rfl), by repeat (first | (with_reducible first | exact HB.out | apply below_alloc | apply pw_below_drewN | apply below_drew1) | exact HB.out)⟩
mutual
def laws_FnModules.j0 : Nat → List (S47) → Int → Int → Int → List Int → List Int → List Int → List Int → Int → Bool → Option (Bool)
  | 0, _, _, _, _, _, _, _, _, _, _ => none
  | k + 1, x3, x4, x5, x6, x9, x11, x13, x17, x21, x155 => if x155 = true then (some false) else (if x6 = 0 then (if 0 ≤ x4 then (if x4 < (x3.length : Int) then (laws_FnModules.l0 k x3 x4 x5 x9 x11 x13 x17 x21 ((rd_T47 x3 x4).f1) 0) else (none)) else (none)) else (some true))
def laws_FnModules.l0 : Nat → List (S47) → Int → Int → List Int → List Int → List Int → List Int → Int → Int → Int → Option (Bool)
  | 0, _, _, _, _, _, _, _, _, _, _ => none
  | k + 1, x3, x4, x5, x9, x11, x13, x17, x21, x25, x26 => if x26 < (x13.length : Int) then (if 0 ≤ x26 then ((impl_PinsBelow.f k x3 (rd x13 x26)).bind fun bt343 => ((impl_DepthOf.f k x3 (rd x13 x26)).bind fun bt346 => (if bt343.2 = 0 then (if bt346.2 = 0 then (if bt346.1 = (wrap64 (x5 + 1)) then ((laws_hasInt.f k x17 (rd x13 x26)).bind fun t349 => (if t349 = true then (laws_FnModules.l0 k x3 x4 x5 x9 x11 x13 x17 x21 (wrap64 (x25 + bt343.1)) (wrap64 (x26 + 1))) else (some false))) else (some false)) else (some false)) else (some false)))) else (none)) else (if x25 = x21 then (if (x9.length : Int) = (wrap64 (x5 + 1)) then (if 0 < (x9.length : Int) then (if (rd x9 0) = x4 then (if 0 ≤ (wrap64 ((x11.length : Int) - 1)) then (if (wrap64 ((x11.length : Int) - 1)) < (x9.length : Int) then (if (rd x9 (wrap64 ((x11.length : Int) - 1))) = 0 then ((laws_hasInt.f k x17 x4).bind fun t341 => (some t341)) else (some false)) else (none)) else (none)) else (some false)) else (none)) else (some false)) else (some false))
end
def laws_FnModules.f (k : Nat) (l0 : List Int) : Option (Bool) := (laws_big.f l0).bind fun t297 => (if t297 = true then (some true) else ((spec_DrawDepthOf.f k l0).bind fun bt298 => ((impl_DepthOf.f k bt298.1 bt298.2).bind fun bt302 => ((spec_DepthOf.f k bt298.1 bt298.2).bind fun bt304 => ((impl_WayToMaster.f k bt298.1 bt298.2).bind fun bt306 => ((spec_WayToMaster.f k bt298.1 bt298.2).bind fun bt310 => ((impl_ChildrenOf.f k bt298.1 bt298.2).bind fun bt314 => ((spec_ChildrenOf.f k bt298.1 bt298.2).bind fun bt318 => ((impl_ModulesBelow.f k bt298.1 bt298.2).bind fun bt322 => ((spec_ModulesBelow.f k bt298.1 bt298.2).bind fun bt326 => ((impl_PinsBelow.f k bt298.1 bt298.2).bind fun bt330 => ((spec_PinsBelow.f k bt298.1 bt298.2).bind fun bt332 => (if bt302.2 = bt304.2 then (if bt302.1 = bt304.1 then (if bt306.2 = bt310.2 then ((laws_likeInts.f k bt306.1 bt310.1).bind fun t334 => (if t334 = true then (if bt314.2 = bt318.2 then ((laws_likeInts.f k bt314.1 bt318.1).bind fun t335 => (if t335 = true then (if bt322.2 = bt326.2 then ((laws_likeInts.f k bt322.1 bt326.1).bind fun t336 => (if t336 = true then (if bt330.2 = bt332.2 then (if bt330.1 = bt332.1 then ((impl_AreModules.f k bt298.1).bind fun t337 => (laws_FnModules.j0 k bt298.1 bt298.2 bt302.1 bt302.2 bt306.1 bt310.1 bt314.1 bt322.1 bt330.1 (t337 != (bt304.2 != 1)))) else (laws_FnModules.j0 k bt298.1 bt298.2 bt302.1 bt302.2 bt306.1 bt310.1 bt314.1 bt322.1 bt330.1 true)) else (laws_FnModules.j0 k bt298.1 bt298.2 bt302.1 bt302.2 bt306.1 bt310.1 bt314.1 bt322.1 bt330.1 true)) else (laws_FnModules.j0 k bt298.1 bt298.2 bt302.1 bt302.2 bt306.1 bt310.1 bt314.1 bt322.1 bt330.1 true))) else (laws_FnModules.j0 k bt298.1 bt298.2 bt302.1 bt302.2 bt306.1 bt310.1 bt314.1 bt322.1 bt330.1 true)) else (laws_FnModules.j0 k bt298.1 bt298.2 bt302.1 bt302.2 bt306.1 bt310.1 bt314.1 bt322.1 bt330.1 true))) else (laws_FnModules.j0 k bt298.1 bt298.2 bt302.1 bt302.2 bt306.1 bt310.1 bt314.1 bt322.1 bt330.1 true)) else (laws_FnModules.j0 k bt298.1 bt298.2 bt302.1 bt302.2 bt306.1 bt310.1 bt314.1 bt322.1 bt330.1 true))) else (laws_FnModules.j0 k bt298.1 bt298.2 bt302.1 bt302.2 bt306.1 bt310.1 bt314.1 bt322.1 bt330.1 true)) else (laws_FnModules.j0 k bt298.1 bt298.2 bt302.1 bt302.2 bt306.1 bt310.1 bt314.1 bt322.1 bt330.1 true)) else (laws_FnModules.j0 k bt298.1 bt298.2 bt302.1 bt302.2 bt306.1 bt310.1 bt314.1 bt322.1 bt330.1 true))))))))))))))
theorem laws_FnModules.mono_l : ∀ k, (∀ y0 y1 y2 y3 y4 y5 y6 y7 y8 y9, LeO (laws_FnModules.j0 k y0 y1 y2 y3 y4 y5 y6 y7 y8 y9) (laws_FnModules.j0 (k + 1) y0 y1 y2 y3 y4 y5 y6 y7 y8 y9)) ∧ (∀ y0 y1 y2 y3 y4 y5 y6 y7 y8 y9, LeO (laws_FnModules.l0 k y0 y1 y2 y3 y4 y5 y6 y7 y8 y9) (laws_FnModules.l0 (k + 1) y0 y1 y2 y3 y4 y5 y6 y7 y8 y9))
  | 0 => ⟨fun _ _ _ _ _ _ _ _ _ _ r h => by simp [laws_FnModules.j0] at h, fun _ _ _ _ _ _ _ _ _ _ r h => by simp [laws_FnModules.l0] at h⟩
  | k + 1 => by
    obtain ⟨ih0, ih1⟩ := laws_FnModules.mono_l k
    refine ⟨?_, ?_⟩
    · intro y0 y1 y2 y3 y4 y5 y6 y7 y8 y9
      unfold laws_FnModules.j0
      repeat' first
      | (with_reducible exact ih0 _ _ _ _ _ _ _ _ _ _)
      | (with_reducible exact ih1 _ _ _ _ _ _ _ _ _ _)
      | (with_reducible exact impl_AreModules.mono _ _)
      | (with_reducible exact impl_ChildrenOf.mono _ _ _)
      | (with_reducible exact impl_DepthOf.mono _ _ _)
      | (with_reducible exact impl_ModulesBelow.mono _ _ _)
      | (with_reducible exact impl_PinsBelow.mono _ _ _)
      | (with_reducible exact impl_WayToMaster.mono _ _ _)
      | (with_reducible exact laws_hasInt.mono _ _ _)
      | (with_reducible exact laws_likeInts.mono _ _ _)
      | (with_reducible exact spec_ChildrenOf.mono _ _ _)
      | (with_reducible exact spec_DepthOf.mono _ _ _)
      | (with_reducible exact spec_DrawDepthOf.mono _ _)
      | (with_reducible exact spec_ModulesBelow.mono _ _ _)
      | (with_reducible exact spec_PinsBelow.mono _ _ _)
      | (with_reducible exact spec_WayToMaster.mono _ _ _)
      | (with_reducible exact LeO.refl _)
      | (with_reducible exact LeO.none _)
      | (with_reducible refine LeO.ite ?_ ?_)
      | (with_reducible refine LeO.bind ?_ (fun _ => ?_))
      | exact ih0 _ _ _ _ _ _ _ _ _ _
      | exact ih1 _ _ _ _ _ _ _ _ _ _
      | exact impl_AreModules.mono _ _
      | exact impl_ChildrenOf.mono _ _ _
      | exact impl_DepthOf.mono _ _ _
      | exact impl_ModulesBelow.mono _ _ _
      | exact impl_PinsBelow.mono _ _ _
      | exact impl_WayToMaster.mono _ _ _
      | exact laws_hasInt.mono _ _ _
      | exact laws_likeInts.mono _ _ _
      | exact spec_ChildrenOf.mono _ _ _
      | exact spec_DepthOf.mono _ _ _
      | exact spec_DrawDepthOf.mono _ _
      | exact spec_ModulesBelow.mono _ _ _
      | exact spec_PinsBelow.mono _ _ _
      | exact spec_WayToMaster.mono _ _ _
      | exact LeO.none _
      | refine LeO.ite ?_ ?_
      | refine LeO.bind ?_ (fun _ => ?_)
    · intro y0 y1 y2 y3 y4 y5 y6 y7 y8 y9
      unfold laws_FnModules.l0
      repeat' first
      | (with_reducible exact ih0 _ _ _ _ _ _ _ _ _ _)
      | (with_reducible exact ih1 _ _ _ _ _ _ _ _ _ _)
      | (with_reducible exact impl_AreModules.mono _ _)
      | (with_reducible exact impl_ChildrenOf.mono _ _ _)
      | (with_reducible exact impl_DepthOf.mono _ _ _)
      | (with_reducible exact impl_ModulesBelow.mono _ _ _)
      | (with_reducible exact impl_PinsBelow.mono _ _ _)
      | (with_reducible exact impl_WayToMaster.mono _ _ _)
      | (with_reducible exact laws_hasInt.mono _ _ _)
      | (with_reducible exact laws_likeInts.mono _ _ _)
      | (with_reducible exact spec_ChildrenOf.mono _ _ _)
      | (with_reducible exact spec_DepthOf.mono _ _ _)
      | (with_reducible exact spec_DrawDepthOf.mono _ _)
      | (with_reducible exact spec_ModulesBelow.mono _ _ _)
      | (with_reducible exact spec_PinsBelow.mono _ _ _)
      | (with_reducible exact spec_WayToMaster.mono _ _ _)
      | (with_reducible exact LeO.refl _)
      | (with_reducible exact LeO.none _)
      | (with_reducible refine LeO.ite ?_ ?_)
      | (with_reducible refine LeO.bind ?_ (fun _ => ?_))
      | exact ih0 _ _ _ _ _ _ _ _ _ _
      | exact ih1 _ _ _ _ _ _ _ _ _ _
      | exact impl_AreModules.mono _ _
      | exact impl_ChildrenOf.mono _ _ _
      | exact impl_DepthOf.mono _ _ _
      | exact impl_ModulesBelow.mono _ _ _
      | exact impl_PinsBelow.mono _ _ _
      | exact impl_WayToMaster.mono _ _ _
      | exact laws_hasInt.mono _ _ _
      | exact laws_likeInts.mono _ _ _
      | exact spec_ChildrenOf.mono _ _ _
      | exact spec_DepthOf.mono _ _ _
      | exact spec_DrawDepthOf.mono _ _
      | exact spec_ModulesBelow.mono _ _ _
      | exact spec_PinsBelow.mono _ _ _
      | exact spec_WayToMaster.mono _ _ _
      | exact LeO.none _
      | refine LeO.ite ?_ ?_
      | refine LeO.bind ?_ (fun _ => ?_)
theorem laws_FnModules.mono : ∀ a0 k, LeO (laws_FnModules.f k a0) (laws_FnModules.f (k + 1) a0) := by
  intro a0 k
  obtain ⟨ih0, ih1⟩ := laws_FnModules.mono_l k
  unfold laws_FnModules.f
  repeat' first
      | (with_reducible exact ih0 _ _ _ _ _ _ _ _ _ _)
      | (with_reducible exact ih1 _ _ _ _ _ _ _ _ _ _)
      | (with_reducible exact impl_AreModules.mono _ _)
      | (with_reducible exact impl_ChildrenOf.mono _ _ _)
      | (with_reducible exact impl_DepthOf.mono _ _ _)
      | (with_reducible exact impl_ModulesBelow.mono _ _ _)
      | (with_reducible exact impl_PinsBelow.mono _ _ _)
      | (with_reducible exact impl_WayToMaster.mono _ _ _)
      | (with_reducible exact laws_hasInt.mono _ _ _)
      | (with_reducible exact laws_likeInts.mono _ _ _)
      | (with_reducible exact spec_ChildrenOf.mono _ _ _)
      | (with_reducible exact spec_DepthOf.mono _ _ _)
      | (with_reducible exact spec_DrawDepthOf.mono _ _)
      | (with_reducible exact spec_ModulesBelow.mono _ _ _)
      | (with_reducible exact spec_PinsBelow.mono _ _ _)
      | (with_reducible exact spec_WayToMaster.mono _ _ _)
      | (with_reducible exact LeO.refl _)
      | (with_reducible exact LeO.none _)
      | (with_reducible refine LeO.ite ?_ ?_)
      | (with_reducible refine LeO.bind ?_ (fun _ => ?_))
      | exact ih0 _ _ _ _ _ _ _ _ _ _
      | exact ih1 _ _ _ _ _ _ _ _ _ _
      | exact impl_AreModules.mono _ _
      | exact impl_ChildrenOf.mono _ _ _
      | exact impl_DepthOf.mono _ _ _
      | exact impl_ModulesBelow.mono _ _ _
      | exact impl_PinsBelow.mono _ _ _
      | exact impl_WayToMaster.mono _ _ _
      | exact laws_hasInt.mono _ _ _
      | exact laws_likeInts.mono _ _ _
      | exact spec_ChildrenOf.mono _ _ _
      | exact spec_DepthOf.mono _ _ _
      | exact spec_DrawDepthOf.mono _ _
      | exact spec_ModulesBelow.mono _ _ _
      | exact spec_PinsBelow.mono _ _ _
      | exact spec_WayToMaster.mono _ _ _
      | exact LeO.none _
      | refine LeO.ite ?_ ?_
      | refine LeO.bind ?_ (fun _ => ?_)
theorem laws_FnModules.j0_true {k : Nat} {a0} {a1} {a2} {a3} {a4} {a5} {a6} {a7} {a8} {r : Bool} (h : laws_FnModules.j0 k a0 a1 a2 a3 a4 a5 a6 a7 a8 true = some r) : false = r := by
  cases k with
  | zero => simp [laws_FnModules.j0] at h
  | succ k => simpa [laws_FnModules.j0] using h
set_option maxHeartbeats 8000000 in
set_option maxRecDepth 100000 in
theorem laws_FnModules.calls (k : Nat) (A0 : Option Addr) (c0 : Nat) (l0 : List Int) (r : Bool) (w : World) (hr0 : Kd.C (Kd.int .u8) w A0 l0.length l0) (hc0 : l0.length ≤ c0) (h : laws_FnModules.f k l0 = some r) (hT : r = true) :
    Calls Try.prog 4 #[.slice A0 l0.length c0] w fun e w' => e = .returned (.bool r) ∧ Below w.heap.size w w' := by
  have HR0 := Aside0.mk hr0
  have HC0 := Aside0.mk hc0
  clear hr0 hc0
  have HB := Aside0.mk (Below.refl w.heap.size w)
  have H : ((laws_big.f l0).bind fun t297 => (if t297 = true then (some true) else ((spec_DrawDepthOf.f k l0).bind fun bt298 => ((impl_DepthOf.f k bt298.1 bt298.2).bind fun bt302 => ((spec_DepthOf.f k bt298.1 bt298.2).bind fun bt304 => ((impl_WayToMaster.f k bt298.1 bt298.2).bind fun bt306 => ((spec_WayToMaster.f k bt298.1 bt298.2).bind fun bt310 => ((impl_ChildrenOf.f k bt298.1 bt298.2).bind fun bt314 => ((spec_ChildrenOf.f k bt298.1 bt298.2).bind fun bt318 => ((impl_ModulesBelow.f k bt298.1 bt298.2).bind fun bt322 => ((spec_ModulesBelow.f k bt298.1 bt298.2).bind fun bt326 => ((impl_PinsBelow.f k bt298.1 bt298.2).bind fun bt330 => ((spec_PinsBelow.f k bt298.1 bt298.2).bind fun bt332 => (if bt302.2 = bt304.2 then (if bt302.1 = bt304.1 then (if bt306.2 = bt310.2 then ((laws_likeInts.f k bt306.1 bt310.1).bind fun t334 => (if t334 = true then (if bt314.2 = bt318.2 then ((laws_likeInts.f k bt314.1 bt318.1).bind fun t335 => (if t335 = true then (if bt322.2 = bt326.2 then ((laws_likeInts.f k bt322.1 bt326.1).bind fun t336 => (if t336 = true then (if bt330.2 = bt332.2 then (if bt330.1 = bt332.1 then ((impl_AreModules.f k bt298.1).bind fun t337 => (laws_FnModules.j0 k bt298.1 bt298.2 bt302.1 bt302.2 bt306.1 bt310.1 bt314.1 bt322.1 bt330.1 (t337 != (bt304.2 != 1)))) else (laws_FnModules.j0 k bt298.1 bt298.2 bt302.1 bt302.2 bt306.1 bt310.1 bt314.1 bt322.1 bt330.1 true)) else (laws_FnModules.j0 k bt298.1 bt298.2 bt302.1 bt302.2 bt306.1 bt310.1 bt314.1 bt322.1 bt330.1 true)) else (laws_FnModules.j0 k bt298.1 bt298.2 bt302.1 bt302.2 bt306.1 bt310.1 bt314.1 bt322.1 bt330.1 true))) else (laws_FnModules.j0 k bt298.1 bt298.2 bt302.1 bt302.2 bt306.1 bt310.1 bt314.1 bt322.1 bt330.1 true)) else (laws_FnModules.j0 k bt298.1 bt298.2 bt302.1 bt302.2 bt306.1 bt310.1 bt314.1 bt322.1 bt330.1 true))) else (laws_FnModules.j0 k bt298.1 bt298.2 bt302.1 bt302.2 bt306.1 bt310.1 bt314.1 bt322.1 bt330.1 true)) else (laws_FnModules.j0 k bt298.1 bt298.2 bt302.1 bt302.2 bt306.1 bt310.1 bt314.1 bt322.1 bt330.1 true))) else (laws_FnModules.j0 k bt298.1 bt298.2 bt302.1 bt302.2 bt306.1 bt310.1 bt314.1 bt322.1 bt330.1 true)) else (laws_FnModules.j0 k bt298.1 bt298.2 bt302.1 bt302.2 bt306.1 bt310.1 bt314.1 bt322.1 bt330.1 true)) else (laws_FnModules.j0 k bt298.1 bt298.2 bt302.1 bt302.2 bt306.1 bt310.1 bt314.1 bt322.1 bt330.1 true))))))))))))))) = some r := h
  clear h
  replace H := Option.bind_eq_some_iff.mp H
  obtain ⟨t297, A20, H⟩ := H
  replace H : (if t297 = true then (some true) else ((spec_DrawDepthOf.f k l0).bind fun bt298 => ((impl_DepthOf.f k bt298.1 bt298.2).bind fun bt302 => ((spec_DepthOf.f k bt298.1 bt298.2).bind fun bt304 => ((impl_WayToMaster.f k bt298.1 bt298.2).bind fun bt306 => ((spec_WayToMaster.f k bt298.1 bt298.2).bind fun bt310 => ((impl_ChildrenOf.f k bt298.1 bt298.2).bind fun bt314 => ((spec_ChildrenOf.f k bt298.1 bt298.2).bind fun bt318 => ((impl_ModulesBelow.f k bt298.1 bt298.2).bind fun bt322 => ((spec_ModulesBelow.f k bt298.1 bt298.2).bind fun bt326 => ((impl_PinsBelow.f k bt298.1 bt298.2).bind fun bt330 => ((spec_PinsBelow.f k bt298.1 bt298.2).bind fun bt332 => (if bt302.2 = bt304.2 then (if bt302.1 = bt304.1 then (if bt306.2 = bt310.2 then ((laws_likeInts.f k bt306.1 bt310.1).bind fun t334 => (if t334 = true then (if bt314.2 = bt318.2 then ((laws_likeInts.f k bt314.1 bt318.1).bind fun t335 => (if t335 = true then (if bt322.2 = bt326.2 then ((laws_likeInts.f k bt322.1 bt326.1).bind fun t336 => (if t336 = true then (if bt330.2 = bt332.2 then (if bt330.1 = bt332.1 then ((impl_AreModules.f k bt298.1).bind fun t337 => (laws_FnModules.j0 k bt298.1 bt298.2 bt302.1 bt302.2 bt306.1 bt310.1 bt314.1 bt322.1 bt330.1 (t337 != (bt304.2 != 1)))) else (laws_FnModules.j0 k bt298.1 bt298.2 bt302.1 bt302.2 bt306.1 bt310.1 bt314.1 bt322.1 bt330.1 true)) else (laws_FnModules.j0 k bt298.1 bt298.2 bt302.1 bt302.2 bt306.1 bt310.1 bt314.1 bt322.1 bt330.1 true)) else (laws_FnModules.j0 k bt298.1 bt298.2 bt302.1 bt302.2 bt306.1 bt310.1 bt314.1 bt322.1 bt330.1 true))) else (laws_FnModules.j0 k bt298.1 bt298.2 bt302.1 bt302.2 bt306.1 bt310.1 bt314.1 bt322.1 bt330.1 true)) else (laws_FnModules.j0 k bt298.1 bt298.2 bt302.1 bt302.2 bt306.1 bt310.1 bt314.1 bt322.1 bt330.1 true))) else (laws_FnModules.j0 k bt298.1 bt298.2 bt302.1 bt302.2 bt306.1 bt310.1 bt314.1 bt322.1 bt330.1 true)) else (laws_FnModules.j0 k bt298.1 bt298.2 bt302.1 bt302.2 bt306.1 bt310.1 bt314.1 bt322.1 bt330.1 true))) else (laws_FnModules.j0 k bt298.1 bt298.2 bt302.1 bt302.2 bt306.1 bt310.1 bt314.1 bt322.1 bt330.1 true)) else (laws_FnModules.j0 k bt298.1 bt298.2 bt302.1 bt302.2 bt306.1 bt310.1 bt314.1 bt322.1 bt330.1 true)) else (laws_FnModules.j0 k bt298.1 bt298.2 bt302.1 bt302.2 bt306.1 bt310.1 bt314.1 bt322.1 bt330.1 true)))))))))))))) = some r := H
  have A2 := Aside0.mk A20
  clear A20
  by_cases c3 : t297 = true
  · subst c3
    have H1 : (some true) = some r := by rw [if_pos rfl] at H; exact H
    clear H
    have H := H1
    clear H1
    obtain rfl := Option.some.inj H
    go_enter Try.func4, Try.ntmps4
    go_wp2_with (first | ((with_reducible refine gate_callee (f := 15) rfl ?_); refine goesL_ (some 32) rfl rfl Try.func15 (by kernel_rfl) rfl #[.slice A0 l0.length c0] rfl (by (try simp only [List.map_toArray, List.map_cons, List.map_nil]); first | done | rfl | (simp only [List.length_drop, List.length_take]; rfl)) ?_; (with_reducible refine (laws_big.calls _ _ l0 true _ ?side1 ?side2 A2.out).mono ?_); (case side1 => repeat (first | exact HR0.out | (with_reducible refine Kd.C_alloc ?_ _) | (with_reducible refine Kd.C_drewN ?_ _) | (with_reducible refine Kd.C_drew ?_))); (case side2 => exact HC0.out); rintro e w' ⟨rfl, ⟨nd, rfl⟩⟩; refine ⟨_, rfl, ?_⟩))
    go_ret
    exact ⟨by first | rfl | (simp [errW_none, errW_some] <;> rfl) | (simp [*, errW_none, errW_some] <;> rfl), by repeat (first | (with_reducible first | exact HB.out | apply below_alloc | apply pw_below_drewN | apply below_drew1) | exact HB.out)⟩
  · replace c3 := Bool.eq_false_iff.mpr c3
    subst c3
    have H1 : ((spec_DrawDepthOf.f k l0).bind fun bt298 => ((impl_DepthOf.f k bt298.1 bt298.2).bind fun bt302 => ((spec_DepthOf.f k bt298.1 bt298.2).bind fun bt304 => ((impl_WayToMaster.f k bt298.1 bt298.2).bind fun bt306 => ((spec_WayToMaster.f k bt298.1 bt298.2).bind fun bt310 => ((impl_ChildrenOf.f k bt298.1 bt298.2).bind fun bt314 => ((spec_ChildrenOf.f k bt298.1 bt298.2).bind fun bt318 => ((impl_ModulesBelow.f k bt298.1 bt298.2).bind fun bt322 => ((spec_ModulesBelow.f k bt298.1 bt298.2).bind fun bt326 => ((impl_PinsBelow.f k bt298.1 bt298.2).bind fun bt330 => ((spec_PinsBelow.f k bt298.1 bt298.2).bind fun bt332 => (if bt302.2 = bt304.2 then (if bt302.1 = bt304.1 then (if bt306.2 = bt310.2 then ((laws_likeInts.f k bt306.1 bt310.1).bind fun t334 => (if t334 = true then (if bt314.2 = bt318.2 then ((laws_likeInts.f k bt314.1 bt318.1).bind fun t335 => (if t335 = true then (if bt322.2 = bt326.2 then ((laws_likeInts.f k bt322.1 bt326.1).bind fun t336 => (if t336 = true then (if bt330.2 = bt332.2 then (if bt330.1 = bt332.1 then ((impl_AreModules.f k bt298.1).bind fun t337 => (laws_FnModules.j0 k bt298.1 bt298.2 bt302.1 bt302.2 bt306.1 bt310.1 bt314.1 bt322.1 bt330.1 (t337 != (bt304.2 != 1)))) else (laws_FnModules.j0 k bt298.1 bt298.2 bt302.1 bt302.2 bt306.1 bt310.1 bt314.1 bt322.1 bt330.1 true)) else (laws_FnModules.j0 k bt298.1 bt298.2 bt302.1 bt302.2 bt306.1 bt310.1 bt314.1 bt322.1 bt330.1 true)) else (laws_FnModules.j0 k bt298.1 bt298.2 bt302.1 bt302.2 bt306.1 bt310.1 bt314.1 bt322.1 bt330.1 true))) else (laws_FnModules.j0 k bt298.1 bt298.2 bt302.1 bt302.2 bt306.1 bt310.1 bt314.1 bt322.1 bt330.1 true)) else (laws_FnModules.j0 k bt298.1 bt298.2 bt302.1 bt302.2 bt306.1 bt310.1 bt314.1 bt322.1 bt330.1 true))) else (laws_FnModules.j0 k bt298.1 bt298.2 bt302.1 bt302.2 bt306.1 bt310.1 bt314.1 bt322.1 bt330.1 true)) else (laws_FnModules.j0 k bt298.1 bt298.2 bt302.1 bt302.2 bt306.1 bt310.1 bt314.1 bt322.1 bt330.1 true))) else (laws_FnModules.j0 k bt298.1 bt298.2 bt302.1 bt302.2 bt306.1 bt310.1 bt314.1 bt322.1 bt330.1 true)) else (laws_FnModules.j0 k bt298.1 bt298.2 bt302.1 bt302.2 bt306.1 bt310.1 bt314.1 bt322.1 bt330.1 true)) else (laws_FnModules.j0 k bt298.1 bt298.2 bt302.1 bt302.2 bt306.1 bt310.1 bt314.1 bt322.1 bt330.1 true))))))))))))) = some r := by rw [if_neg (show ¬ (false = true) by decide)] at H; exact H
    clear H
    have H := H1
    clear H1
    replace H := Option.bind_eq_some_iff.mp H
    obtain ⟨⟨t298, t299⟩, A40, H⟩ := H
    replace H : ((impl_DepthOf.f k t298 t299).bind fun bt302 => ((spec_DepthOf.f k t298 t299).bind fun bt304 => ((impl_WayToMaster.f k t298 t299).bind fun bt306 => ((spec_WayToMaster.f k t298 t299).bind fun bt310 => ((impl_ChildrenOf.f k t298 t299).bind fun bt314 => ((spec_ChildrenOf.f k t298 t299).bind fun bt318 => ((impl_ModulesBelow.f k t298 t299).bind fun bt322 => ((spec_ModulesBelow.f k t298 t299).bind fun bt326 => ((impl_PinsBelow.f k t298 t299).bind fun bt330 => ((spec_PinsBelow.f k t298 t299).bind fun bt332 => (if bt302.2 = bt304.2 then (if bt302.1 = bt304.1 then (if bt306.2 = bt310.2 then ((laws_likeInts.f k bt306.1 bt310.1).bind fun t334 => (if t334 = true then (if bt314.2 = bt318.2 then ((laws_likeInts.f k bt314.1 bt318.1).bind fun t335 => (if t335 = true then (if bt322.2 = bt326.2 then ((laws_likeInts.f k bt322.1 bt326.1).bind fun t336 => (if t336 = true then (if bt330.2 = bt332.2 then (if bt330.1 = bt332.1 then ((impl_AreModules.f k t298).bind fun t337 => (laws_FnModules.j0 k t298 t299 bt302.1 bt302.2 bt306.1 bt310.1 bt314.1 bt322.1 bt330.1 (t337 != (bt304.2 != 1)))) else (laws_FnModules.j0 k t298 t299 bt302.1 bt302.2 bt306.1 bt310.1 bt314.1 bt322.1 bt330.1 true)) else (laws_FnModules.j0 k t298 t299 bt302.1 bt302.2 bt306.1 bt310.1 bt314.1 bt322.1 bt330.1 true)) else (laws_FnModules.j0 k t298 t299 bt302.1 bt302.2 bt306.1 bt310.1 bt314.1 bt322.1 bt330.1 true))) else (laws_FnModules.j0 k t298 t299 bt302.1 bt302.2 bt306.1 bt310.1 bt314.1 bt322.1 bt330.1 true)) else (laws_FnModules.j0 k t298 t299 bt302.1 bt302.2 bt306.1 bt310.1 bt314.1 bt322.1 bt330.1 true))) else (laws_FnModules.j0 k t298 t299 bt302.1 bt302.2 bt306.1 bt310.1 bt314.1 bt322.1 bt330.1 true)) else (laws_FnModules.j0 k t298 t299 bt302.1 bt302.2 bt306.1 bt310.1 bt314.1 bt322.1 bt330.1 true))) else (laws_FnModules.j0 k t298 t299 bt302.1 bt302.2 bt306.1 bt310.1 bt314.1 bt322.1 bt330.1 true)) else (laws_FnModules.j0 k t298 t299 bt302.1 bt302.2 bt306.1 bt310.1 bt314.1 bt322.1 bt330.1 true)) else (laws_FnModules.j0 k t298 t299 bt302.1 bt302.2 bt306.1 bt310.1 bt314.1 bt322.1 bt330.1 true)))))))))))) = some r := H
    have A4 := Aside0.mk A40
    clear A40
    replace H := Option.bind_eq_some_iff.mp H
    obtain ⟨⟨t302, t303⟩, A50, H⟩ := H
    replace H : ((spec_DepthOf.f k t298 t299).bind fun bt304 => ((impl_WayToMaster.f k t298 t299).bind fun bt306 => ((spec_WayToMaster.f k t298 t299).bind fun bt310 => ((impl_ChildrenOf.f k t298 t299).bind fun bt314 => ((spec_ChildrenOf.f k t298 t299).bind fun bt318 => ((impl_ModulesBelow.f k t298 t299).bind fun bt322 => ((spec_ModulesBelow.f k t298 t299).bind fun bt326 => ((impl_PinsBelow.f k t298 t299).bind fun bt330 => ((spec_PinsBelow.f k t298 t299).bind fun bt332 => (if t303 = bt304.2 then (if t302 = bt304.1 then (if bt306.2 = bt310.2 then ((laws_likeInts.f k bt306.1 bt310.1).bind fun t334 => (if t334 = true then (if bt314.2 = bt318.2 then ((laws_likeInts.f k bt314.1 bt318.1).bind fun t335 => (if t335 = true then (if bt322.2 = bt326.2 then ((laws_likeInts.f k bt322.1 bt326.1).bind fun t336 => (if t336 = true then (if bt330.2 = bt332.2 then (if bt330.1 = bt332.1 then ((impl_AreModules.f k t298).bind fun t337 => (laws_FnModules.j0 k t298 t299 t302 t303 bt306.1 bt310.1 bt314.1 bt322.1 bt330.1 (t337 != (bt304.2 != 1)))) else (laws_FnModules.j0 k t298 t299 t302 t303 bt306.1 bt310.1 bt314.1 bt322.1 bt330.1 true)) else (laws_FnModules.j0 k t298 t299 t302 t303 bt306.1 bt310.1 bt314.1 bt322.1 bt330.1 true)) else (laws_FnModules.j0 k t298 t299 t302 t303 bt306.1 bt310.1 bt314.1 bt322.1 bt330.1 true))) else (laws_FnModules.j0 k t298 t299 t302 t303 bt306.1 bt310.1 bt314.1 bt322.1 bt330.1 true)) else (laws_FnModules.j0 k t298 t299 t302 t303 bt306.1 bt310.1 bt314.1 bt322.1 bt330.1 true))) else (laws_FnModules.j0 k t298 t299 t302 t303 bt306.1 bt310.1 bt314.1 bt322.1 bt330.1 true)) else (laws_FnModules.j0 k t298 t299 t302 t303 bt306.1 bt310.1 bt314.1 bt322.1 bt330.1 true))) else (laws_FnModules.j0 k t298 t299 t302 t303 bt306.1 bt310.1 bt314.1 bt322.1 bt330.1 true)) else (laws_FnModules.j0 k t298 t299 t302 t303 bt306.1 bt310.1 bt314.1 bt322.1 bt330.1 true)) else (laws_FnModules.j0 k t298 t299 t302 t303 bt306.1 bt310.1 bt314.1 bt322.1 bt330.1 true))))))))))) = some r := H
    have A5 := Aside0.mk A50
    clear A50
    replace H := Option.bind_eq_some_iff.mp H
    obtain ⟨⟨t304, t305⟩, A60, H⟩ := H
    replace H : ((impl_WayToMaster.f k t298 t299).bind fun bt306 => ((spec_WayToMaster.f k t298 t299).bind fun bt310 => ((impl_ChildrenOf.f k t298 t299).bind fun bt314 => ((spec_ChildrenOf.f k t298 t299).bind fun bt318 => ((impl_ModulesBelow.f k t298 t299).bind fun bt322 => ((spec_ModulesBelow.f k t298 t299).bind fun bt326 => ((impl_PinsBelow.f k t298 t299).bind fun bt330 => ((spec_PinsBelow.f k t298 t299).bind fun bt332 => (if t303 = t305 then (if t302 = t304 then (if bt306.2 = bt310.2 then ((laws_likeInts.f k bt306.1 bt310.1).bind fun t334 => (if t334 = true then (if bt314.2 = bt318.2 then ((laws_likeInts.f k bt314.1 bt318.1).bind fun t335 => (if t335 = true then (if bt322.2 = bt326.2 then ((laws_likeInts.f k bt322.1 bt326.1).bind fun t336 => (if t336 = true then (if bt330.2 = bt332.2 then (if bt330.1 = bt332.1 then ((impl_AreModules.f k t298).bind fun t337 => (laws_FnModules.j0 k t298 t299 t302 t303 bt306.1 bt310.1 bt314.1 bt322.1 bt330.1 (t337 != (t305 != 1)))) else (laws_FnModules.j0 k t298 t299 t302 t303 bt306.1 bt310.1 bt314.1 bt322.1 bt330.1 true)) else (laws_FnModules.j0 k t298 t299 t302 t303 bt306.1 bt310.1 bt314.1 bt322.1 bt330.1 true)) else (laws_FnModules.j0 k t298 t299 t302 t303 bt306.1 bt310.1 bt314.1 bt322.1 bt330.1 true))) else (laws_FnModules.j0 k t298 t299 t302 t303 bt306.1 bt310.1 bt314.1 bt322.1 bt330.1 true)) else (laws_FnModules.j0 k t298 t299 t302 t303 bt306.1 bt310.1 bt314.1 bt322.1 bt330.1 true))) else (laws_FnModules.j0 k t298 t299 t302 t303 bt306.1 bt310.1 bt314.1 bt322.1 bt330.1 true)) else (laws_FnModules.j0 k t298 t299 t302 t303 bt306.1 bt310.1 bt314.1 bt322.1 bt330.1 true))) else (laws_FnModules.j0 k t298 t299 t302 t303 bt306.1 bt310.1 bt314.1 bt322.1 bt330.1 true)) else (laws_FnModules.j0 k t298 t299 t302 t303 bt306.1 bt310.1 bt314.1 bt322.1 bt330.1 true)) else (laws_FnModules.j0 k t298 t299 t302 t303 bt306.1 bt310.1 bt314.1 bt322.1 bt330.1 true)))))))))) = some r := H
    have A6 := Aside0.mk A60
    clear A60
    replace H := Option.bind_eq_some_iff.mp H
    obtain ⟨⟨t306, t307⟩, A70, H⟩ := H
    replace H : ((spec_WayToMaster.f k t298 t299).bind fun bt310 => ((impl_ChildrenOf.f k t298 t299).bind fun bt314 => ((spec_ChildrenOf.f k t298 t299).bind fun bt318 => ((impl_ModulesBelow.f k t298 t299).bind fun bt322 => ((spec_ModulesBelow.f k t298 t299).bind fun bt326 => ((impl_PinsBelow.f k t298 t299).bind fun bt330 => ((spec_PinsBelow.f k t298 t299).bind fun bt332 => (if t303 = t305 then (if t302 = t304 then (if t307 = bt310.2 then ((laws_likeInts.f k t306 bt310.1).bind fun t334 => (if t334 = true then (if bt314.2 = bt318.2 then ((laws_likeInts.f k bt314.1 bt318.1).bind fun t335 => (if t335 = true then (if bt322.2 = bt326.2 then ((laws_likeInts.f k bt322.1 bt326.1).bind fun t336 => (if t336 = true then (if bt330.2 = bt332.2 then (if bt330.1 = bt332.1 then ((impl_AreModules.f k t298).bind fun t337 => (laws_FnModules.j0 k t298 t299 t302 t303 t306 bt310.1 bt314.1 bt322.1 bt330.1 (t337 != (t305 != 1)))) else (laws_FnModules.j0 k t298 t299 t302 t303 t306 bt310.1 bt314.1 bt322.1 bt330.1 true)) else (laws_FnModules.j0 k t298 t299 t302 t303 t306 bt310.1 bt314.1 bt322.1 bt330.1 true)) else (laws_FnModules.j0 k t298 t299 t302 t303 t306 bt310.1 bt314.1 bt322.1 bt330.1 true))) else (laws_FnModules.j0 k t298 t299 t302 t303 t306 bt310.1 bt314.1 bt322.1 bt330.1 true)) else (laws_FnModules.j0 k t298 t299 t302 t303 t306 bt310.1 bt314.1 bt322.1 bt330.1 true))) else (laws_FnModules.j0 k t298 t299 t302 t303 t306 bt310.1 bt314.1 bt322.1 bt330.1 true)) else (laws_FnModules.j0 k t298 t299 t302 t303 t306 bt310.1 bt314.1 bt322.1 bt330.1 true))) else (laws_FnModules.j0 k t298 t299 t302 t303 t306 bt310.1 bt314.1 bt322.1 bt330.1 true)) else (laws_FnModules.j0 k t298 t299 t302 t303 t306 bt310.1 bt314.1 bt322.1 bt330.1 true)) else (laws_FnModules.j0 k t298 t299 t302 t303 t306 bt310.1 bt314.1 bt322.1 bt330.1 true))))))))) = some r := H
    have A7 := Aside0.mk A70
    clear A70
    replace H := Option.bind_eq_some_iff.mp H
    obtain ⟨⟨t310, t311⟩, A80, H⟩ := H
    replace H : ((impl_ChildrenOf.f k t298 t299).bind fun bt314 => ((spec_ChildrenOf.f k t298 t299).bind fun bt318 => ((impl_ModulesBelow.f k t298 t299).bind fun bt322 => ((spec_ModulesBelow.f k t298 t299).bind fun bt326 => ((impl_PinsBelow.f k t298 t299).bind fun bt330 => ((spec_PinsBelow.f k t298 t299).bind fun bt332 => (if t303 = t305 then (if t302 = t304 then (if t307 = t311 then ((laws_likeInts.f k t306 t310).bind fun t334 => (if t334 = true then (if bt314.2 = bt318.2 then ((laws_likeInts.f k bt314.1 bt318.1).bind fun t335 => (if t335 = true then (if bt322.2 = bt326.2 then ((laws_likeInts.f k bt322.1 bt326.1).bind fun t336 => (if t336 = true then (if bt330.2 = bt332.2 then (if bt330.1 = bt332.1 then ((impl_AreModules.f k t298).bind fun t337 => (laws_FnModules.j0 k t298 t299 t302 t303 t306 t310 bt314.1 bt322.1 bt330.1 (t337 != (t305 != 1)))) else (laws_FnModules.j0 k t298 t299 t302 t303 t306 t310 bt314.1 bt322.1 bt330.1 true)) else (laws_FnModules.j0 k t298 t299 t302 t303 t306 t310 bt314.1 bt322.1 bt330.1 true)) else (laws_FnModules.j0 k t298 t299 t302 t303 t306 t310 bt314.1 bt322.1 bt330.1 true))) else (laws_FnModules.j0 k t298 t299 t302 t303 t306 t310 bt314.1 bt322.1 bt330.1 true)) else (laws_FnModules.j0 k t298 t299 t302 t303 t306 t310 bt314.1 bt322.1 bt330.1 true))) else (laws_FnModules.j0 k t298 t299 t302 t303 t306 t310 bt314.1 bt322.1 bt330.1 true)) else (laws_FnModules.j0 k t298 t299 t302 t303 t306 t310 bt314.1 bt322.1 bt330.1 true))) else (laws_FnModules.j0 k t298 t299 t302 t303 t306 t310 bt314.1 bt322.1 bt330.1 true)) else (laws_FnModules.j0 k t298 t299 t302 t303 t306 t310 bt314.1 bt322.1 bt330.1 true)) else (laws_FnModules.j0 k t298 t299 t302 t303 t306 t310 bt314.1 bt322.1 bt330.1 true)))))))) = some r := H
    have A8 := Aside0.mk A80
    clear A80
    replace H := Option.bind_eq_some_iff.mp H
    obtain ⟨⟨t314, t315⟩, A90, H⟩ := H
    replace H : ((spec_ChildrenOf.f k t298 t299).bind fun bt318 => ((impl_ModulesBelow.f k t298 t299).bind fun bt322 => ((spec_ModulesBelow.f k t298 t299).bind fun bt326 => ((impl_PinsBelow.f k t298 t299).bind fun bt330 => ((spec_PinsBelow.f k t298 t299).bind fun bt332 => (if t303 = t305 then (if t302 = t304 then (if t307 = t311 then ((laws_likeInts.f k t306 t310).bind fun t334 => (if t334 = true then (if t315 = bt318.2 then ((laws_likeInts.f k t314 bt318.1).bind fun t335 => (if t335 = true then (if bt322.2 = bt326.2 then ((laws_likeInts.f k bt322.1 bt326.1).bind fun t336 => (if t336 = true then (if bt330.2 = bt332.2 then (if bt330.1 = bt332.1 then ((impl_AreModules.f k t298).bind fun t337 => (laws_FnModules.j0 k t298 t299 t302 t303 t306 t310 t314 bt322.1 bt330.1 (t337 != (t305 != 1)))) else (laws_FnModules.j0 k t298 t299 t302 t303 t306 t310 t314 bt322.1 bt330.1 true)) else (laws_FnModules.j0 k t298 t299 t302 t303 t306 t310 t314 bt322.1 bt330.1 true)) else (laws_FnModules.j0 k t298 t299 t302 t303 t306 t310 t314 bt322.1 bt330.1 true))) else (laws_FnModules.j0 k t298 t299 t302 t303 t306 t310 t314 bt322.1 bt330.1 true)) else (laws_FnModules.j0 k t298 t299 t302 t303 t306 t310 t314 bt322.1 bt330.1 true))) else (laws_FnModules.j0 k t298 t299 t302 t303 t306 t310 t314 bt322.1 bt330.1 true)) else (laws_FnModules.j0 k t298 t299 t302 t303 t306 t310 t314 bt322.1 bt330.1 true))) else (laws_FnModules.j0 k t298 t299 t302 t303 t306 t310 t314 bt322.1 bt330.1 true)) else (laws_FnModules.j0 k t298 t299 t302 t303 t306 t310 t314 bt322.1 bt330.1 true)) else (laws_FnModules.j0 k t298 t299 t302 t303 t306 t310 t314 bt322.1 bt330.1 true))))))) = some r := H
    have A9 := Aside0.mk A90
    clear A90
    replace H := Option.bind_eq_some_iff.mp H
    obtain ⟨⟨t318, t319⟩, A100, H⟩ := H
    replace H : ((impl_ModulesBelow.f k t298 t299).bind fun bt322 => ((spec_ModulesBelow.f k t298 t299).bind fun bt326 => ((impl_PinsBelow.f k t298 t299).bind fun bt330 => ((spec_PinsBelow.f k t298 t299).bind fun bt332 => (if t303 = t305 then (if t302 = t304 then (if t307 = t311 then ((laws_likeInts.f k t306 t310).bind fun t334 => (if t334 = true then (if t315 = t319 then ((laws_likeInts.f k t314 t318).bind fun t335 => (if t335 = true then (if bt322.2 = bt326.2 then ((laws_likeInts.f k bt322.1 bt326.1).bind fun t336 => (if t336 = true then (if bt330.2 = bt332.2 then (if bt330.1 = bt332.1 then ((impl_AreModules.f k t298).bind fun t337 => (laws_FnModules.j0 k t298 t299 t302 t303 t306 t310 t314 bt322.1 bt330.1 (t337 != (t305 != 1)))) else (laws_FnModules.j0 k t298 t299 t302 t303 t306 t310 t314 bt322.1 bt330.1 true)) else (laws_FnModules.j0 k t298 t299 t302 t303 t306 t310 t314 bt322.1 bt330.1 true)) else (laws_FnModules.j0 k t298 t299 t302 t303 t306 t310 t314 bt322.1 bt330.1 true))) else (laws_FnModules.j0 k t298 t299 t302 t303 t306 t310 t314 bt322.1 bt330.1 true)) else (laws_FnModules.j0 k t298 t299 t302 t303 t306 t310 t314 bt322.1 bt330.1 true))) else (laws_FnModules.j0 k t298 t299 t302 t303 t306 t310 t314 bt322.1 bt330.1 true)) else (laws_FnModules.j0 k t298 t299 t302 t303 t306 t310 t314 bt322.1 bt330.1 true))) else (laws_FnModules.j0 k t298 t299 t302 t303 t306 t310 t314 bt322.1 bt330.1 true)) else (laws_FnModules.j0 k t298 t299 t302 t303 t306 t310 t314 bt322.1 bt330.1 true)) else (laws_FnModules.j0 k t298 t299 t302 t303 t306 t310 t314 bt322.1 bt330.1 true)))))) = some r := H
    have A10 := Aside0.mk A100
    clear A100
    replace H := Option.bind_eq_some_iff.mp H
    obtain ⟨⟨t322, t323⟩, A110, H⟩ := H
    replace H : ((spec_ModulesBelow.f k t298 t299).bind fun bt326 => ((impl_PinsBelow.f k t298 t299).bind fun bt330 => ((spec_PinsBelow.f k t298 t299).bind fun bt332 => (if t303 = t305 then (if t302 = t304 then (if t307 = t311 then ((laws_likeInts.f k t306 t310).bind fun t334 => (if t334 = true then (if t315 = t319 then ((laws_likeInts.f k t314 t318).bind fun t335 => (if t335 = true then (if t323 = bt326.2 then ((laws_likeInts.f k t322 bt326.1).bind fun t336 => (if t336 = true then (if bt330.2 = bt332.2 then (if bt330.1 = bt332.1 then ((impl_AreModules.f k t298).bind fun t337 => (laws_FnModules.j0 k t298 t299 t302 t303 t306 t310 t314 t322 bt330.1 (t337 != (t305 != 1)))) else (laws_FnModules.j0 k t298 t299 t302 t303 t306 t310 t314 t322 bt330.1 true)) else (laws_FnModules.j0 k t298 t299 t302 t303 t306 t310 t314 t322 bt330.1 true)) else (laws_FnModules.j0 k t298 t299 t302 t303 t306 t310 t314 t322 bt330.1 true))) else (laws_FnModules.j0 k t298 t299 t302 t303 t306 t310 t314 t322 bt330.1 true)) else (laws_FnModules.j0 k t298 t299 t302 t303 t306 t310 t314 t322 bt330.1 true))) else (laws_FnModules.j0 k t298 t299 t302 t303 t306 t310 t314 t322 bt330.1 true)) else (laws_FnModules.j0 k t298 t299 t302 t303 t306 t310 t314 t322 bt330.1 true))) else (laws_FnModules.j0 k t298 t299 t302 t303 t306 t310 t314 t322 bt330.1 true)) else (laws_FnModules.j0 k t298 t299 t302 t303 t306 t310 t314 t322 bt330.1 true)) else (laws_FnModules.j0 k t298 t299 t302 t303 t306 t310 t314 t322 bt330.1 true))))) = some r := H
    have A11 := Aside0.mk A110
    clear A110
    replace H := Option.bind_eq_some_iff.mp H
    obtain ⟨⟨t326, t327⟩, A120, H⟩ := H
    replace H : ((impl_PinsBelow.f k t298 t299).bind fun bt330 => ((spec_PinsBelow.f k t298 t299).bind fun bt332 => (if t303 = t305 then (if t302 = t304 then (if t307 = t311 then ((laws_likeInts.f k t306 t310).bind fun t334 => (if t334 = true then (if t315 = t319 then ((laws_likeInts.f k t314 t318).bind fun t335 => (if t335 = true then (if t323 = t327 then ((laws_likeInts.f k t322 t326).bind fun t336 => (if t336 = true then (if bt330.2 = bt332.2 then (if bt330.1 = bt332.1 then ((impl_AreModules.f k t298).bind fun t337 => (laws_FnModules.j0 k t298 t299 t302 t303 t306 t310 t314 t322 bt330.1 (t337 != (t305 != 1)))) else (laws_FnModules.j0 k t298 t299 t302 t303 t306 t310 t314 t322 bt330.1 true)) else (laws_FnModules.j0 k t298 t299 t302 t303 t306 t310 t314 t322 bt330.1 true)) else (laws_FnModules.j0 k t298 t299 t302 t303 t306 t310 t314 t322 bt330.1 true))) else (laws_FnModules.j0 k t298 t299 t302 t303 t306 t310 t314 t322 bt330.1 true)) else (laws_FnModules.j0 k t298 t299 t302 t303 t306 t310 t314 t322 bt330.1 true))) else (laws_FnModules.j0 k t298 t299 t302 t303 t306 t310 t314 t322 bt330.1 true)) else (laws_FnModules.j0 k t298 t299 t302 t303 t306 t310 t314 t322 bt330.1 true))) else (laws_FnModules.j0 k t298 t299 t302 t303 t306 t310 t314 t322 bt330.1 true)) else (laws_FnModules.j0 k t298 t299 t302 t303 t306 t310 t314 t322 bt330.1 true)) else (laws_FnModules.j0 k t298 t299 t302 t303 t306 t310 t314 t322 bt330.1 true)))) = some r := H
    have A12 := Aside0.mk A120
    clear A120
    replace H := Option.bind_eq_some_iff.mp H
    obtain ⟨⟨t330, t331⟩, A130, H⟩ := H
    replace H : ((spec_PinsBelow.f k t298 t299).bind fun bt332 => (if t303 = t305 then (if t302 = t304 then (if t307 = t311 then ((laws_likeInts.f k t306 t310).bind fun t334 => (if t334 = true then (if t315 = t319 then ((laws_likeInts.f k t314 t318).bind fun t335 => (if t335 = true then (if t323 = t327 then ((laws_likeInts.f k t322 t326).bind fun t336 => (if t336 = true then (if t331 = bt332.2 then (if t330 = bt332.1 then ((impl_AreModules.f k t298).bind fun t337 => (laws_FnModules.j0 k t298 t299 t302 t303 t306 t310 t314 t322 t330 (t337 != (t305 != 1)))) else (laws_FnModules.j0 k t298 t299 t302 t303 t306 t310 t314 t322 t330 true)) else (laws_FnModules.j0 k t298 t299 t302 t303 t306 t310 t314 t322 t330 true)) else (laws_FnModules.j0 k t298 t299 t302 t303 t306 t310 t314 t322 t330 true))) else (laws_FnModules.j0 k t298 t299 t302 t303 t306 t310 t314 t322 t330 true)) else (laws_FnModules.j0 k t298 t299 t302 t303 t306 t310 t314 t322 t330 true))) else (laws_FnModules.j0 k t298 t299 t302 t303 t306 t310 t314 t322 t330 true)) else (laws_FnModules.j0 k t298 t299 t302 t303 t306 t310 t314 t322 t330 true))) else (laws_FnModules.j0 k t298 t299 t302 t303 t306 t310 t314 t322 t330 true)) else (laws_FnModules.j0 k t298 t299 t302 t303 t306 t310 t314 t322 t330 true)) else (laws_FnModules.j0 k t298 t299 t302 t303 t306 t310 t314 t322 t330 true))) = some r := H
    have A13 := Aside0.mk A130
    clear A130
    replace H := Option.bind_eq_some_iff.mp H
    obtain ⟨⟨t332, t333⟩, A140, H⟩ := H
    replace H : (if t303 = t305 then (if t302 = t304 then (if t307 = t311 then ((laws_likeInts.f k t306 t310).bind fun t334 => (if t334 = true then (if t315 = t319 then ((laws_likeInts.f k t314 t318).bind fun t335 => (if t335 = true then (if t323 = t327 then ((laws_likeInts.f k t322 t326).bind fun t336 => (if t336 = true then (if t331 = t333 then (if t330 = t332 then ((impl_AreModules.f k t298).bind fun t337 => (laws_FnModules.j0 k t298 t299 t302 t303 t306 t310 t314 t322 t330 (t337 != (t305 != 1)))) else (laws_FnModules.j0 k t298 t299 t302 t303 t306 t310 t314 t322 t330 true)) else (laws_FnModules.j0 k t298 t299 t302 t303 t306 t310 t314 t322 t330 true)) else (laws_FnModules.j0 k t298 t299 t302 t303 t306 t310 t314 t322 t330 true))) else (laws_FnModules.j0 k t298 t299 t302 t303 t306 t310 t314 t322 t330 true)) else (laws_FnModules.j0 k t298 t299 t302 t303 t306 t310 t314 t322 t330 true))) else (laws_FnModules.j0 k t298 t299 t302 t303 t306 t310 t314 t322 t330 true)) else (laws_FnModules.j0 k t298 t299 t302 t303 t306 t310 t314 t322 t330 true))) else (laws_FnModules.j0 k t298 t299 t302 t303 t306 t310 t314 t322 t330 true)) else (laws_FnModules.j0 k t298 t299 t302 t303 t306 t310 t314 t322 t330 true)) else (laws_FnModules.j0 k t298 t299 t302 t303 t306 t310 t314 t322 t330 true)) = some r := H
    have A14 := Aside0.mk A140
    clear A140
    have HC15 := Aside0.mk H
    clear H
    go_enter Try.func4, Try.ntmps4
    go_upto_region 14 with (first | ((with_reducible refine gate_callee (f := 15) rfl ?_); refine goesL_ (some 32) rfl rfl Try.func15 (by kernel_rfl) rfl #[.slice A0 l0.length c0] rfl (by (try simp only [List.map_toArray, List.map_cons, List.map_nil]); first | done | rfl | (simp only [List.length_drop, List.length_take]; rfl)) ?_; (with_reducible refine (laws_big.calls _ _ l0 false _ ?side1 ?side2 A2.out).mono ?_); (case side1 => repeat (first | exact HR0.out | (with_reducible refine Kd.C_alloc ?_ _) | (with_reducible refine Kd.C_drewN ?_ _) | (with_reducible refine Kd.C_drew ?_))); (case side2 => exact HC0.out); rintro e w' ⟨rfl, ⟨nd, rfl⟩⟩; refine ⟨_, rfl, ?_⟩) | ((with_reducible refine gate_callee (f := 27) rfl ?_); refine goesL_ (some 35) rfl rfl Try.func27 (by kernel_rfl) rfl #[.slice A0 l0.length c0] rfl (by (try simp only [List.map_toArray, List.map_cons, List.map_nil]); first | done | rfl | (simp only [List.length_drop, List.length_take]; rfl)) ?_; (with_reducible refine (spec_DrawDepthOf.calls k _ _ l0 t298 t299 _ ?side1 ?side2 A4.out).mono ?_); (case side1 => repeat (first | exact HR0.out | (with_reducible refine Kd.C_alloc ?_ _) | (with_reducible refine Kd.C_drewN ?_ _) | (with_reducible refine Kd.C_drew ?_))); (case side2 => exact HC0.out); rintro e w16 ⟨v300, rfl, ho0, hb⟩; refine ⟨_, rfl, ?_⟩; have n0_ := Aside0.mk (Kd.R_lower ho0 (below_size (by repeat (first | (with_reducible first | exact HB.out | apply below_alloc | apply pw_below_drewN | apply below_drew1) | exact HB.out)))); have n1_ := Aside0.mk (below_step (by repeat (first | (with_reducible first | exact HB.out | apply below_alloc | apply pw_below_drewN | apply below_drew1) | exact HB.out)) hb); clear HB; have HO301 := n0_; have HB := n1_; clear n0_ n1_; (try clear hb); (try clear hb2); (try clear hk); (try clear hi); (try clear ho0); obtain ⟨Ao17, co17, eo17⟩ := Kd.R_slice HO301.out; subst eo17) | ((with_reducible refine gate_callee (f := 28) rfl ?_); refine goesL_ (some 41) rfl rfl Try.func28 (by kernel_rfl) rfl #[.slice Ao17 t298.length co17, .int .i64 t299] rfl (by (try simp only [List.map_toArray, List.map_cons, List.map_nil]); first | done | rfl | (simp only [List.length_drop, List.length_take]; rfl)) ?_; (with_reducible refine (impl_DepthOf.calls k _ _ t298 t299 t302 t303 _ ?side1 ?side2 A5.out).mono ?_); (case side1 => repeat (first | exact (Kd.R_reads' HO301.out).2.2 | (with_reducible refine Kd.C_alloc ?_ _) | (with_reducible refine Kd.C_drewN ?_ _) | (with_reducible refine Kd.C_drew ?_))); (case side2 => exact (Kd.R_reads' HO301.out).2.1); rintro e w18 ⟨rfl, hb⟩; refine ⟨_, rfl, ?_⟩; have n0_ := Aside0.mk (Kd.R_below (by (with_reducible repeat (first | apply Kd.R_alloc | apply Kd.R_drewN | apply Kd.R_drew)); exact HO301.out) hb); have n1_ := Aside0.mk (below_step (by repeat (first | (with_reducible first | exact HB.out | apply below_alloc | apply pw_below_drewN | apply below_drew1) | exact HB.out)) hb); clear HO301; clear HB; have HO301 := n0_; have HB := n1_; clear n0_ n1_; (try clear hb); (try clear hb2); (try clear hk); (try clear hi)) | ((with_reducible refine gate_callee (f := 29) rfl ?_); refine goesL_ (some 47) rfl rfl Try.func29 (by kernel_rfl) rfl #[.slice Ao17 t298.length co17, .int .i64 t299] rfl (by (try simp only [List.map_toArray, List.map_cons, List.map_nil]); first | done | rfl | (simp only [List.length_drop, List.length_take]; rfl)) ?_; (with_reducible refine (spec_DepthOf.calls k _ _ t298 t299 t304 t305 _ ?side1 ?side2 A6.out).mono ?_); (case side1 => repeat (first | exact (Kd.R_reads' HO301.out).2.2 | (with_reducible refine Kd.C_alloc ?_ _) | (with_reducible refine Kd.C_drewN ?_ _) | (with_reducible refine Kd.C_drew ?_))); (case side2 => exact (Kd.R_reads' HO301.out).2.1); rintro e w19 ⟨rfl, hb⟩; refine ⟨_, rfl, ?_⟩; have n0_ := Aside0.mk (Kd.R_below (by (with_reducible repeat (first | apply Kd.R_alloc | apply Kd.R_drewN | apply Kd.R_drew)); exact HO301.out) hb); have n1_ := Aside0.mk (below_step (by repeat (first | (with_reducible first | exact HB.out | apply below_alloc | apply pw_below_drewN | apply below_drew1) | exact HB.out)) hb); clear HO301; clear HB; have HO301 := n0_; have HB := n1_; clear n0_ n1_; (try clear hb); (try clear hb2); (try clear hk); (try clear hi)) | ((with_reducible refine gate_callee (f := 30) rfl ?_); refine goesL_ (some 53) rfl rfl Try.func30 (by kernel_rfl) rfl #[.slice Ao17 t298.length co17, .int .i64 t299] rfl (by (try simp only [List.map_toArray, List.map_cons, List.map_nil]); first | done | rfl | (simp only [List.length_drop, List.length_take]; rfl)) ?_; (with_reducible refine (impl_WayToMaster.calls k _ _ t298 t299 t306 t307 _ ?side1 ?side2 A7.out).mono ?_); (case side1 => repeat (first | exact (Kd.R_reads' HO301.out).2.2 | (with_reducible refine Kd.C_alloc ?_ _) | (with_reducible refine Kd.C_drewN ?_ _) | (with_reducible refine Kd.C_drew ?_))); (case side2 => exact (Kd.R_reads' HO301.out).2.1); rintro e w20 ⟨v308, rfl, ho0, hb⟩; refine ⟨_, rfl, ?_⟩; have n0_ := Aside0.mk (Kd.R_below (by (with_reducible repeat (first | apply Kd.R_alloc | apply Kd.R_drewN | apply Kd.R_drew)); exact HO301.out) hb); have n1_ := Aside0.mk (Kd.R_lower ho0 (below_size (by repeat (first | (with_reducible first | exact HB.out | apply below_alloc | apply pw_below_drewN | apply below_drew1) | exact HB.out)))); have n2_ := Aside0.mk (below_step (by repeat (first | (with_reducible first | exact HB.out | apply below_alloc | apply pw_below_drewN | apply below_drew1) | exact HB.out)) hb); clear HO301; clear HB; have HO301 := n0_; have HO309 := n1_; have HB := n2_; clear n0_ n1_ n2_; (try clear hb); (try clear hb2); (try clear hk); (try clear hi); (try clear ho0)) | ((with_reducible refine gate_callee (f := 31) rfl ?_); refine goesL_ (some 59) rfl rfl Try.func31 (by kernel_rfl) rfl #[.slice Ao17 t298.length co17, .int .i64 t299] rfl (by (try simp only [List.map_toArray, List.map_cons, List.map_nil]); first | done | rfl | (simp only [List.length_drop, List.length_take]; rfl)) ?_; (with_reducible refine (spec_WayToMaster.calls k _ _ t298 t299 t310 t311 _ ?side1 ?side2 A8.out).mono ?_); (case side1 => repeat (first | exact (Kd.R_reads' HO301.out).2.2 | (with_reducible refine Kd.C_alloc ?_ _) | (with_reducible refine Kd.C_drewN ?_ _) | (with_reducible refine Kd.C_drew ?_))); (case side2 => exact (Kd.R_reads' HO301.out).2.1); rintro e w21 ⟨v312, rfl, ho0, hb⟩; refine ⟨_, rfl, ?_⟩; have n0_ := Aside0.mk (Kd.R_below (by (with_reducible repeat (first | apply Kd.R_alloc | apply Kd.R_drewN | apply Kd.R_drew)); exact HO301.out) hb); have n1_ := Aside0.mk (Kd.R_elder' (by (with_reducible repeat (first | apply Kd.R_alloc | apply Kd.R_drewN | apply Kd.R_drew)); exact HO309.out) (Kd.R_base ho0) hb); have n2_ := Aside0.mk (Kd.R_lower (Kd.R_new' ho0 (Kd.R_lt (by (with_reducible repeat (first | apply Kd.R_alloc | apply Kd.R_drewN | apply Kd.R_drew)); exact HO309.out))) (below_size (by repeat (first | (with_reducible first | exact HB.out | apply below_alloc | apply pw_below_drewN | apply below_drew1) | exact HB.out)))); have n3_ := Aside0.mk (below_step (by repeat (first | (with_reducible first | exact HB.out | apply below_alloc | apply pw_below_drewN | apply below_drew1) | exact HB.out)) hb); clear HO301; clear HO309; clear HB; have HO301 := n0_; have HO309 := n1_; have HO313 := n2_; have HB := n3_; clear n0_ n1_ n2_ n3_; (try clear hb); (try clear hb2); (try clear hk); (try clear hi); (try clear ho0)) | ((with_reducible refine gate_callee (f := 32) rfl ?_); refine goesL_ (some 65) rfl rfl Try.func32 (by kernel_rfl) rfl #[.slice Ao17 t298.length co17, .int .i64 t299] rfl (by (try simp only [List.map_toArray, List.map_cons, List.map_nil]); first | done | rfl | (simp only [List.length_drop, List.length_take]; rfl)) ?_; (with_reducible refine (impl_ChildrenOf.calls k _ _ t298 t299 t314 t315 _ ?side1 ?side2 A9.out).mono ?_); (case side1 => repeat (first | exact (Kd.R_reads' HO301.out).2.2 | (with_reducible refine Kd.C_alloc ?_ _) | (with_reducible refine Kd.C_drewN ?_ _) | (with_reducible refine Kd.C_drew ?_))); (case side2 => exact (Kd.R_reads' HO301.out).2.1); rintro e w22 ⟨v316, rfl, ho0, hb⟩; refine ⟨_, rfl, ?_⟩; have n0_ := Aside0.mk (Kd.R_below (by (with_reducible repeat (first | apply Kd.R_alloc | apply Kd.R_drewN | apply Kd.R_drew)); exact HO301.out) hb); have n1_ := Aside0.mk (Kd.R_elder' (by (with_reducible repeat (first | apply Kd.R_alloc | apply Kd.R_drewN | apply Kd.R_drew)); exact HO309.out) (Kd.R_base ho0) hb); have n2_ := Aside0.mk (Kd.R_elder' (by (with_reducible repeat (first | apply Kd.R_alloc | apply Kd.R_drewN | apply Kd.R_drew)); exact HO313.out) (Kd.R_base ho0) hb); have n3_ := Aside0.mk (Kd.R_lower (Kd.R_new' (Kd.R_new' ho0 (Kd.R_lt (by (with_reducible repeat (first | apply Kd.R_alloc | apply Kd.R_drewN | apply Kd.R_drew)); exact HO309.out))) (Kd.R_lt (by (with_reducible repeat (first | apply Kd.R_alloc | apply Kd.R_drewN | apply Kd.R_drew)); exact HO313.out))) (below_size (by repeat (first | (with_reducible first | exact HB.out | apply below_alloc | apply pw_below_drewN | apply below_drew1) | exact HB.out)))); have n4_ := Aside0.mk (below_step (by repeat (first | (with_reducible first | exact HB.out | apply below_alloc | apply pw_below_drewN | apply below_drew1) | exact HB.out)) hb); clear HO301; clear HO309; clear HO313; clear HB; have HO301 := n0_; have HO309 := n1_; have HO313 := n2_; have HO317 := n3_; have HB := n4_; clear n0_ n1_ n2_ n3_ n4_; (try clear hb); (try clear hb2); (try clear hk); (try clear hi); (try clear ho0)) | ((with_reducible refine gate_callee (f := 33) rfl ?_); refine goesL_ (some 71) rfl rfl Try.func33 (by kernel_rfl) rfl #[.slice Ao17 t298.length co17, .int .i64 t299] rfl (by (try simp only [List.map_toArray, List.map_cons, List.map_nil]); first | done | rfl | (simp only [List.length_drop, List.length_take]; rfl)) ?_; (with_reducible refine (spec_ChildrenOf.calls k _ _ t298 t299 t318 t319 _ ?side1 ?side2 A10.out).mono ?_); (case side1 => repeat (first | exact (Kd.R_reads' HO301.out).2.2 | (with_reducible refine Kd.C_alloc ?_ _) | (with_reducible refine Kd.C_drewN ?_ _) | (with_reducible refine Kd.C_drew ?_))); (case side2 => exact (Kd.R_reads' HO301.out).2.1); rintro e w23 ⟨v320, rfl, ho0, hb⟩; refine ⟨_, rfl, ?_⟩; have n0_ := Aside0.mk (Kd.R_below (by (with_reducible repeat (first | apply Kd.R_alloc | apply Kd.R_drewN | apply Kd.R_drew)); exact HO301.out) hb); have n1_ := Aside0.mk (Kd.R_elder' (by (with_reducible repeat (first | apply Kd.R_alloc | apply Kd.R_drewN | apply Kd.R_drew)); exact HO309.out) (Kd.R_base ho0) hb); have n2_ := Aside0.mk (Kd.R_elder' (by (with_reducible repeat (first | apply Kd.R_alloc | apply Kd.R_drewN | apply Kd.R_drew)); exact HO313.out) (Kd.R_base ho0) hb); have n3_ := Aside0.mk (Kd.R_elder' (by (with_reducible repeat (first | apply Kd.R_alloc | apply Kd.R_drewN | apply Kd.R_drew)); exact HO317.out) (Kd.R_base ho0) hb); have n4_ := Aside0.mk (Kd.R_lower (Kd.R_new' (Kd.R_new' (Kd.R_new' ho0 (Kd.R_lt (by (with_reducible repeat (first | apply Kd.R_alloc | apply Kd.R_drewN | apply Kd.R_drew)); exact HO309.out))) (Kd.R_lt (by (with_reducible repeat (first | apply Kd.R_alloc | apply Kd.R_drewN | apply Kd.R_drew)); exact HO313.out))) (Kd.R_lt (by (with_reducible repeat (first | apply Kd.R_alloc | apply Kd.R_drewN | apply Kd.R_drew)); exact HO317.out))) (below_size (by repeat (first | (with_reducible first | exact HB.out | apply below_alloc | apply pw_below_drewN | apply below_drew1) | exact HB.out)))); have n5_ := Aside0.mk (below_step (by repeat (first | (with_reducible first | exact HB.out | apply below_alloc | apply pw_below_drewN | apply below_drew1) | exact HB.out)) hb); clear HO301; clear HO309; clear HO313; clear HO317; clear HB; have HO301 := n0_; have HO309 := n1_; have HO313 := n2_; have HO317 := n3_; have HO321 := n4_; have HB := n5_; clear n0_ n1_ n2_ n3_ n4_ n5_; (try clear hb); (try clear hb2); (try clear hk); (try clear hi); (try clear ho0)) | ((with_reducible refine gate_callee (f := 34) rfl ?_); refine goesL_ (some 77) rfl rfl Try.func34 (by kernel_rfl) rfl #[.slice Ao17 t298.length co17, .int .i64 t299] rfl (by (try simp only [List.map_toArray, List.map_cons, List.map_nil]); first | done | rfl | (simp only [List.length_drop, List.length_take]; rfl)) ?_; (with_reducible refine (impl_ModulesBelow.calls k _ _ t298 t299 t322 t323 _ ?side1 ?side2 A11.out).mono ?_); (case side1 => repeat (first | exact (Kd.R_reads' HO301.out).2.2 | (with_reducible refine Kd.C_alloc ?_ _) | (with_reducible refine Kd.C_drewN ?_ _) | (with_reducible refine Kd.C_drew ?_))); (case side2 => exact (Kd.R_reads' HO301.out).2.1); rintro e w24 ⟨v324, rfl, ho0, hb⟩; refine ⟨_, rfl, ?_⟩; have n0_ := Aside0.mk (Kd.R_below (by (with_reducible repeat (first | apply Kd.R_alloc | apply Kd.R_drewN | apply Kd.R_drew)); exact HO301.out) hb); have n1_ := Aside0.mk (Kd.R_elder' (by (with_reducible repeat (first | apply Kd.R_alloc | apply Kd.R_drewN | apply Kd.R_drew)); exact HO309.out) (Kd.R_base ho0) hb); have n2_ := Aside0.mk (Kd.R_elder' (by (with_reducible repeat (first | apply Kd.R_alloc | apply Kd.R_drewN | apply Kd.R_drew)); exact HO313.out) (Kd.R_base ho0) hb); have n3_ := Aside0.mk (Kd.R_elder' (by (with_reducible repeat (first | apply Kd.R_alloc | apply Kd.R_drewN | apply Kd.R_drew)); exact HO317.out) (Kd.R_base ho0) hb); have n4_ := Aside0.mk (Kd.R_elder' (by (with_reducible repeat (first | apply Kd.R_alloc | apply Kd.R_drewN | apply Kd.R_drew)); exact HO321.out) (Kd.R_base ho0) hb); have n5_ := Aside0.mk (Kd.R_lower (Kd.R_new' (Kd.R_new' (Kd.R_new' (Kd.R_new' ho0 (Kd.R_lt (by (with_reducible repeat (first | apply Kd.R_alloc | apply Kd.R_drewN | apply Kd.R_drew)); exact HO309.out))) (Kd.R_lt (by (with_reducible repeat (first | apply Kd.R_alloc | apply Kd.R_drewN | apply Kd.R_drew)); exact HO313.out))) (Kd.R_lt (by (with_reducible repeat (first | apply Kd.R_alloc | apply Kd.R_drewN | apply Kd.R_drew)); exact HO317.out))) (Kd.R_lt (by (with_reducible repeat (first | apply Kd.R_alloc | apply Kd.R_drewN | apply Kd.R_drew)); exact HO321.out))) (below_size (by repeat (first | (with_reducible first | exact HB.out | apply below_alloc | apply pw_below_drewN | apply below_drew1) | exact HB.out)))); have n6_ := Aside0.mk (below_step (by repeat (first | (with_reducible first | exact HB.out | apply below_alloc | apply pw_below_drewN | apply below_drew1) | exact HB.out)) hb); clear HO301; clear HO309; clear HO313; clear HO317; clear HO321; clear HB; have HO301 := n0_; have HO309 := n1_; have HO313 := n2_; have HO317 := n3_; have HO321 := n4_; have HO325 := n5_; have HB := n6_; clear n0_ n1_ n2_ n3_ n4_ n5_ n6_; (try clear hb); (try clear hb2); (try clear hk); (try clear hi); (try clear ho0)) | ((with_reducible refine gate_callee (f := 35) rfl ?_); refine goesL_ (some 83) rfl rfl Try.func35 (by kernel_rfl) rfl #[.slice Ao17 t298.length co17, .int .i64 t299] rfl (by (try simp only [List.map_toArray, List.map_cons, List.map_nil]); first | done | rfl | (simp only [List.length_drop, List.length_take]; rfl)) ?_; (with_reducible refine (spec_ModulesBelow.calls k _ _ t298 t299 t326 t327 _ ?side1 ?side2 A12.out).mono ?_); (case side1 => repeat (first | exact (Kd.R_reads' HO301.out).2.2 | (with_reducible refine Kd.C_alloc ?_ _) | (with_reducible refine Kd.C_drewN ?_ _) | (with_reducible refine Kd.C_drew ?_))); (case side2 => exact (Kd.R_reads' HO301.out).2.1); rintro e w25 ⟨v328, rfl, ho0, hb⟩; refine ⟨_, rfl, ?_⟩; have n0_ := Aside0.mk (Kd.R_below (by (with_reducible repeat (first | apply Kd.R_alloc | apply Kd.R_drewN | apply Kd.R_drew)); exact HO301.out) hb); have n1_ := Aside0.mk (Kd.R_elder' (by (with_reducible repeat (first | apply Kd.R_alloc | apply Kd.R_drewN | apply Kd.R_drew)); exact HO309.out) (Kd.R_base ho0) hb); have n2_ := Aside0.mk (Kd.R_elder' (by (with_reducible repeat (first | apply Kd.R_alloc | apply Kd.R_drewN | apply Kd.R_drew)); exact HO313.out) (Kd.R_base ho0) hb); have n3_ := Aside0.mk (Kd.R_elder' (by (with_reducible repeat (first | apply Kd.R_alloc | apply Kd.R_drewN | apply Kd.R_drew)); exact HO317.out) (Kd.R_base ho0) hb); have n4_ := Aside0.mk (Kd.R_elder' (by (with_reducible repeat (first | apply Kd.R_alloc | apply Kd.R_drewN | apply Kd.R_drew)); exact HO321.out) (Kd.R_base ho0) hb); have n5_ := Aside0.mk (Kd.R_elder' (by (with_reducible repeat (first | apply Kd.R_alloc | apply Kd.R_drewN | apply Kd.R_drew)); exact HO325.out) (Kd.R_base ho0) hb); have n6_ := Aside0.mk (Kd.R_lower (Kd.R_new' (Kd.R_new' (Kd.R_new' (Kd.R_new' (Kd.R_new' ho0 (Kd.R_lt (by (with_reducible repeat (first | apply Kd.R_alloc | apply Kd.R_drewN | apply Kd.R_drew)); exact HO309.out))) (Kd.R_lt (by (with_reducible repeat (first | apply Kd.R_alloc | apply Kd.R_drewN | apply Kd.R_drew)); exact HO313.out))) (Kd.R_lt (by (with_reducible repeat (first | apply Kd.R_alloc | apply Kd.R_drewN | apply Kd.R_drew)); exact HO317.out))) (Kd.R_lt (by (with_reducible repeat (first | apply Kd.R_alloc | apply Kd.R_drewN | apply Kd.R_drew)); exact HO321.out))) (Kd.R_lt (by (with_reducible repeat (first | apply Kd.R_alloc | apply Kd.R_drewN | apply Kd.R_drew)); exact HO325.out))) (below_size (by repeat (first | (with_reducible first | exact HB.out | apply below_alloc | apply pw_below_drewN | apply below_drew1) | exact HB.out)))); have n7_ := Aside0.mk (below_step (by repeat (first | (with_reducible first | exact HB.out | apply below_alloc | apply pw_below_drewN | apply below_drew1) | exact HB.out)) hb); clear HO301; clear HO309; clear HO313; clear HO317; clear HO321; clear HO325; clear HB; have HO301 := n0_; have HO309 := n1_; have HO313 := n2_; have HO317 := n3_; have HO321 := n4_; have HO325 := n5_; have HO329 := n6_; have HB := n7_; clear n0_ n1_ n2_ n3_ n4_ n5_ n6_ n7_; (try clear hb); (try clear hb2); (try clear hk); (try clear hi); (try clear ho0)) | ((with_reducible refine gate_callee (f := 36) rfl ?_); refine goesL_ (some 89) rfl rfl Try.func36 (by kernel_rfl) rfl #[.slice Ao17 t298.length co17, .int .i64 t299] rfl (by (try simp only [List.map_toArray, List.map_cons, List.map_nil]); first | done | rfl | (simp only [List.length_drop, List.length_take]; rfl)) ?_; (with_reducible refine (impl_PinsBelow.calls k _ _ t298 t299 t330 t331 _ ?side1 ?side2 A13.out).mono ?_); (case side1 => repeat (first | exact (Kd.R_reads' HO301.out).2.2 | (with_reducible refine Kd.C_alloc ?_ _) | (with_reducible refine Kd.C_drewN ?_ _) | (with_reducible refine Kd.C_drew ?_))); (case side2 => exact (Kd.R_reads' HO301.out).2.1); rintro e w26 ⟨rfl, hb⟩; refine ⟨_, rfl, ?_⟩; have n0_ := Aside0.mk (Kd.R_below (by (with_reducible repeat (first | apply Kd.R_alloc | apply Kd.R_drewN | apply Kd.R_drew)); exact HO301.out) hb); have n1_ := Aside0.mk (Kd.R_below (by (with_reducible repeat (first | apply Kd.R_alloc | apply Kd.R_drewN | apply Kd.R_drew)); exact HO309.out) hb); have n2_ := Aside0.mk (Kd.R_below (by (with_reducible repeat (first | apply Kd.R_alloc | apply Kd.R_drewN | apply Kd.R_drew)); exact HO313.out) hb); have n3_ := Aside0.mk (Kd.R_below (by (with_reducible repeat (first | apply Kd.R_alloc | apply Kd.R_drewN | apply Kd.R_drew)); exact HO317.out) hb); have n4_ := Aside0.mk (Kd.R_below (by (with_reducible repeat (first | apply Kd.R_alloc | apply Kd.R_drewN | apply Kd.R_drew)); exact HO321.out) hb); have n5_ := Aside0.mk (Kd.R_below (by (with_reducible repeat (first | apply Kd.R_alloc | apply Kd.R_drewN | apply Kd.R_drew)); exact HO325.out) hb); have n6_ := Aside0.mk (Kd.R_below (by (with_reducible repeat (first | apply Kd.R_alloc | apply Kd.R_drewN | apply Kd.R_drew)); exact HO329.out) hb); have n7_ := Aside0.mk (below_step (by repeat (first | (with_reducible first | exact HB.out | apply below_alloc | apply pw_below_drewN | apply below_drew1) | exact HB.out)) hb); clear HO301; clear HO309; clear HO313; clear HO317; clear HO321; clear HO325; clear HO329; clear HB; have HO301 := n0_; have HO309 := n1_; have HO313 := n2_; have HO317 := n3_; have HO321 := n4_; have HO325 := n5_; have HO329 := n6_; have HB := n7_; clear n0_ n1_ n2_ n3_ n4_ n5_ n6_ n7_; (try clear hb); (try clear hb2); (try clear hk); (try clear hi)) | ((with_reducible refine gate_callee (f := 37) rfl ?_); refine goesL_ (some 95) rfl rfl Try.func37 (by kernel_rfl) rfl #[.slice Ao17 t298.length co17, .int .i64 t299] rfl (by (try simp only [List.map_toArray, List.map_cons, List.map_nil]); first | done | rfl | (simp only [List.length_drop, List.length_take]; rfl)) ?_; (with_reducible refine (spec_PinsBelow.calls k _ _ t298 t299 t332 t333 _ ?side1 ?side2 A14.out).mono ?_); (case side1 => repeat (first | exact (Kd.R_reads' HO301.out).2.2 | (with_reducible refine Kd.C_alloc ?_ _) | (with_reducible refine Kd.C_drewN ?_ _) | (with_reducible refine Kd.C_drew ?_))); (case side2 => exact (Kd.R_reads' HO301.out).2.1); rintro e w27 ⟨rfl, hb⟩; refine ⟨_, rfl, ?_⟩; have n0_ := Aside0.mk (Kd.R_below (by (with_reducible repeat (first | apply Kd.R_alloc | apply Kd.R_drewN | apply Kd.R_drew)); exact HO301.out) hb); have n1_ := Aside0.mk (Kd.R_below (by (with_reducible repeat (first | apply Kd.R_alloc | apply Kd.R_drewN | apply Kd.R_drew)); exact HO309.out) hb); have n2_ := Aside0.mk (Kd.R_below (by (with_reducible repeat (first | apply Kd.R_alloc | apply Kd.R_drewN | apply Kd.R_drew)); exact HO313.out) hb); have n3_ := Aside0.mk (Kd.R_below (by (with_reducible repeat (first | apply Kd.R_alloc | apply Kd.R_drewN | apply Kd.R_drew)); exact HO317.out) hb); have n4_ := Aside0.mk (Kd.R_below (by (with_reducible repeat (first | apply Kd.R_alloc | apply Kd.R_drewN | apply Kd.R_drew)); exact HO321.out) hb); have n5_ := Aside0.mk (Kd.R_below (by (with_reducible repeat (first | apply Kd.R_alloc | apply Kd.R_drewN | apply Kd.R_drew)); exact HO325.out) hb); have n6_ := Aside0.mk (Kd.R_below (by (with_reducible repeat (first | apply Kd.R_alloc | apply Kd.R_drewN | apply Kd.R_drew)); exact HO329.out) hb); have n7_ := Aside0.mk (below_step (by repeat (first | (with_reducible first | exact HB.out | apply below_alloc | apply pw_below_drewN | apply below_drew1) | exact HB.out)) hb); clear HO301; clear HO309; clear HO313; clear HO317; clear HO321; clear HO325; clear HO329; clear HB; have HO301 := n0_; have HO309 := n1_; have HO313 := n2_; have HO317 := n3_; have HO321 := n4_; have HO325 := n5_; have HO329 := n6_; have HB := n7_; clear n0_ n1_ n2_ n3_ n4_ n5_ n6_ n7_; (try clear hb); (try clear hb2); (try clear hk); (try clear hi)))
    (try simp only [Act.put, List.setIfInBounds_toArray, List.set_cons_zero, List.set_cons_succ])
    go_cut [155] (fun v155 wc => ∃ (kq : Nat) (x155_14 : Bool), v155 = .bool x155_14 ∧ Aside0 (laws_FnModules.j0 kq t298 t299 t302 t303 t306 t310 t314 t322 t330 x155_14 = some r) ∧ Aside0 (kq ≤ k) ∧ Aside0 (Kd.R k47 47 wc w.heap.size (fun _ => True) (.slice Ao17 t298.length co17) t298) ∧ Aside0 (Kd.R (Kd.int .i64) 2 wc w.heap.size (fun k_ => some k_ ≠ (v312 : Value).ownBlock ∧ some k_ ≠ (v316 : Value).ownBlock ∧ some k_ ≠ (v324 : Value).ownBlock) v308 t306) ∧ Aside0 (Kd.R (Kd.int .i64) 2 wc w.heap.size (fun k_ => some k_ ≠ (v308 : Value).ownBlock ∧ some k_ ≠ (v316 : Value).ownBlock ∧ some k_ ≠ (v324 : Value).ownBlock) v312 t310) ∧ Aside0 (Kd.R (Kd.int .i64) 2 wc w.heap.size (fun k_ => some k_ ≠ (v308 : Value).ownBlock ∧ some k_ ≠ (v312 : Value).ownBlock ∧ some k_ ≠ (v324 : Value).ownBlock) v316 t314) ∧ Aside0 (Kd.R (Kd.int .i64) 2 wc w.heap.size (fun k_ => some k_ ≠ (v308 : Value).ownBlock ∧ some k_ ≠ (v312 : Value).ownBlock ∧ some k_ ≠ (v316 : Value).ownBlock) v324 t322) ∧ Aside0 (Below w.heap.size w wc))
    case first =>
      have H := HC15.out
      clear HC15
      by_cases c28 : t303 = t305
      · rw [if_pos c28] at H
        have c28b0 : (t303 == t305) = true := beq_iff_eq.mpr c28
        have c28b1 : (t303 != t305) = false := bne_eq_false_iff_eq.mpr c28
        clear c28
        (first | rw [c28b0] | (simp only [i64_w, i32_w]; rw [c28b0]) | skip)
        by_cases c29 : t302 = t304
        · rw [if_pos c29] at H
          have c29b0 : (t302 == t304) = true := beq_iff_eq.mpr c29
          have c29b1 : (t302 != t304) = false := bne_eq_false_iff_eq.mpr c29
          clear c29
          by_cases c30 : t307 = t311
          · rw [if_pos c30] at H
            have c30b0 : (t307 == t311) = true := beq_iff_eq.mpr c30
            have c30b1 : (t307 != t311) = false := bne_eq_false_iff_eq.mpr c30
            clear c30
            replace H := Option.bind_eq_some_iff.mp H
            obtain ⟨t334, A310, H⟩ := H
            replace H : (if t334 = true then (if t315 = t319 then ((laws_likeInts.f k t314 t318).bind fun t335 => (if t335 = true then (if t323 = t327 then ((laws_likeInts.f k t322 t326).bind fun t336 => (if t336 = true then (if t331 = t333 then (if t330 = t332 then ((impl_AreModules.f k t298).bind fun t337 => (laws_FnModules.j0 k t298 t299 t302 t303 t306 t310 t314 t322 t330 (t337 != (t305 != 1)))) else (laws_FnModules.j0 k t298 t299 t302 t303 t306 t310 t314 t322 t330 true)) else (laws_FnModules.j0 k t298 t299 t302 t303 t306 t310 t314 t322 t330 true)) else (laws_FnModules.j0 k t298 t299 t302 t303 t306 t310 t314 t322 t330 true))) else (laws_FnModules.j0 k t298 t299 t302 t303 t306 t310 t314 t322 t330 true)) else (laws_FnModules.j0 k t298 t299 t302 t303 t306 t310 t314 t322 t330 true))) else (laws_FnModules.j0 k t298 t299 t302 t303 t306 t310 t314 t322 t330 true)) else (laws_FnModules.j0 k t298 t299 t302 t303 t306 t310 t314 t322 t330 true)) = some r := H
            have A31 := Aside0.mk A310
            clear A310
            by_cases c32 : t334 = true
            · subst c32
              have H1 : (if t315 = t319 then ((laws_likeInts.f k t314 t318).bind fun t335 => (if t335 = true then (if t323 = t327 then ((laws_likeInts.f k t322 t326).bind fun t336 => (if t336 = true then (if t331 = t333 then (if t330 = t332 then ((impl_AreModules.f k t298).bind fun t337 => (laws_FnModules.j0 k t298 t299 t302 t303 t306 t310 t314 t322 t330 (t337 != (t305 != 1)))) else (laws_FnModules.j0 k t298 t299 t302 t303 t306 t310 t314 t322 t330 true)) else (laws_FnModules.j0 k t298 t299 t302 t303 t306 t310 t314 t322 t330 true)) else (laws_FnModules.j0 k t298 t299 t302 t303 t306 t310 t314 t322 t330 true))) else (laws_FnModules.j0 k t298 t299 t302 t303 t306 t310 t314 t322 t330 true)) else (laws_FnModules.j0 k t298 t299 t302 t303 t306 t310 t314 t322 t330 true))) else (laws_FnModules.j0 k t298 t299 t302 t303 t306 t310 t314 t322 t330 true)) = some r := by rw [if_pos rfl] at H; exact H
              clear H
              have H := H1
              clear H1
              by_cases c33 : t315 = t319
              · rw [if_pos c33] at H
                have c33b0 : (t315 == t319) = true := beq_iff_eq.mpr c33
                have c33b1 : (t315 != t319) = false := bne_eq_false_iff_eq.mpr c33
                clear c33
                replace H := Option.bind_eq_some_iff.mp H
                obtain ⟨t335, A340, H⟩ := H
                replace H : (if t335 = true then (if t323 = t327 then ((laws_likeInts.f k t322 t326).bind fun t336 => (if t336 = true then (if t331 = t333 then (if t330 = t332 then ((impl_AreModules.f k t298).bind fun t337 => (laws_FnModules.j0 k t298 t299 t302 t303 t306 t310 t314 t322 t330 (t337 != (t305 != 1)))) else (laws_FnModules.j0 k t298 t299 t302 t303 t306 t310 t314 t322 t330 true)) else (laws_FnModules.j0 k t298 t299 t302 t303 t306 t310 t314 t322 t330 true)) else (laws_FnModules.j0 k t298 t299 t302 t303 t306 t310 t314 t322 t330 true))) else (laws_FnModules.j0 k t298 t299 t302 t303 t306 t310 t314 t322 t330 true)) else (laws_FnModules.j0 k t298 t299 t302 t303 t306 t310 t314 t322 t330 true)) = some r := H
                have A34 := Aside0.mk A340
                clear A340
                by_cases c35 : t335 = true
                · subst c35
                  have H1 : (if t323 = t327 then ((laws_likeInts.f k t322 t326).bind fun t336 => (if t336 = true then (if t331 = t333 then (if t330 = t332 then ((impl_AreModules.f k t298).bind fun t337 => (laws_FnModules.j0 k t298 t299 t302 t303 t306 t310 t314 t322 t330 (t337 != (t305 != 1)))) else (laws_FnModules.j0 k t298 t299 t302 t303 t306 t310 t314 t322 t330 true)) else (laws_FnModules.j0 k t298 t299 t302 t303 t306 t310 t314 t322 t330 true)) else (laws_FnModules.j0 k t298 t299 t302 t303 t306 t310 t314 t322 t330 true))) else (laws_FnModules.j0 k t298 t299 t302 t303 t306 t310 t314 t322 t330 true)) = some r := by rw [if_pos rfl] at H; exact H
                  clear H
                  have H := H1
                  clear H1
                  by_cases c36 : t323 = t327
                  · rw [if_pos c36] at H
                    have c36b0 : (t323 == t327) = true := beq_iff_eq.mpr c36
                    have c36b1 : (t323 != t327) = false := bne_eq_false_iff_eq.mpr c36
                    clear c36
                    replace H := Option.bind_eq_some_iff.mp H
                    obtain ⟨t336, A370, H⟩ := H
                    replace H : (if t336 = true then (if t331 = t333 then (if t330 = t332 then ((impl_AreModules.f k t298).bind fun t337 => (laws_FnModules.j0 k t298 t299 t302 t303 t306 t310 t314 t322 t330 (t337 != (t305 != 1)))) else (laws_FnModules.j0 k t298 t299 t302 t303 t306 t310 t314 t322 t330 true)) else (laws_FnModules.j0 k t298 t299 t302 t303 t306 t310 t314 t322 t330 true)) else (laws_FnModules.j0 k t298 t299 t302 t303 t306 t310 t314 t322 t330 true)) = some r := H
                    have A37 := Aside0.mk A370
                    clear A370
                    by_cases c38 : t336 = true
                    · subst c38
                      have H1 : (if t331 = t333 then (if t330 = t332 then ((impl_AreModules.f k t298).bind fun t337 => (laws_FnModules.j0 k t298 t299 t302 t303 t306 t310 t314 t322 t330 (t337 != (t305 != 1)))) else (laws_FnModules.j0 k t298 t299 t302 t303 t306 t310 t314 t322 t330 true)) else (laws_FnModules.j0 k t298 t299 t302 t303 t306 t310 t314 t322 t330 true)) = some r := by rw [if_pos rfl] at H; exact H
                      clear H
                      have H := H1
                      clear H1
                      by_cases c39 : t331 = t333
                      · rw [if_pos c39] at H
                        have c39b0 : (t331 == t333) = true := beq_iff_eq.mpr c39
                        have c39b1 : (t331 != t333) = false := bne_eq_false_iff_eq.mpr c39
                        clear c39
                        by_cases c40 : t330 = t332
                        · rw [if_pos c40] at H
                          have c40b0 : (t330 == t332) = true := beq_iff_eq.mpr c40
                          have c40b1 : (t330 != t332) = false := bne_eq_false_iff_eq.mpr c40
                          clear c40
                          replace H := Option.bind_eq_some_iff.mp H
                          obtain ⟨t337, A410, H⟩ := H
                          replace H : (laws_FnModules.j0 k t298 t299 t302 t303 t306 t310 t314 t322 t330 (t337 != (t305 != 1))) = some r := H
                          have A41 := Aside0.mk A410
                          clear A410
                          have H' := Aside0.mk H
                          clear H
                          obtain ⟨Ao42, co42, eo42⟩ := Kd.R_slice HO309.out
                          subst eo42
                          obtain ⟨Ao43, co43, eo43⟩ := Kd.R_slice HO313.out
                          subst eo43
                          go_wp2_with (first | (go_at_call 24; (with_reducible refine (laws_likeInts.calls k _ _ t306 _ _ t310 true _ ?side1 ?side2 ?side3 ?side4 A31.out).mono ?_); (case side1 => repeat (first | exact (Kd.R_reads' HO309.out).2.2 | (with_reducible refine Kd.C_alloc ?_ _) | (with_reducible refine Kd.C_drewN ?_ _) | (with_reducible refine Kd.C_drew ?_))); (case side2 => exact (Kd.R_reads' HO309.out).2.1); (case side3 => repeat (first | exact (Kd.R_reads' HO313.out).2.2 | (with_reducible refine Kd.C_alloc ?_ _) | (with_reducible refine Kd.C_drewN ?_ _) | (with_reducible refine Kd.C_drew ?_))); (case side4 => exact (Kd.R_reads' HO313.out).2.1); rintro e w' ⟨rfl, ⟨nd, rfl⟩⟩; obtain ⟨Ao44, co44, eo44⟩ := Kd.R_slice HO317.out; subst eo44; obtain ⟨Ao45, co45, eo45⟩ := Kd.R_slice HO321.out; subst eo45) | (go_at_call 24; (with_reducible refine (laws_likeInts.calls k _ _ t314 _ _ t318 true _ ?side1 ?side2 ?side3 ?side4 A34.out).mono ?_); (case side1 => repeat (first | exact (Kd.R_reads' HO317.out).2.2 | (with_reducible refine Kd.C_alloc ?_ _) | (with_reducible refine Kd.C_drewN ?_ _) | (with_reducible refine Kd.C_drew ?_))); (case side2 => exact (Kd.R_reads' HO317.out).2.1); (case side3 => repeat (first | exact (Kd.R_reads' HO321.out).2.2 | (with_reducible refine Kd.C_alloc ?_ _) | (with_reducible refine Kd.C_drewN ?_ _) | (with_reducible refine Kd.C_drew ?_))); (case side4 => exact (Kd.R_reads' HO321.out).2.1); rintro e w' ⟨rfl, ⟨nd, rfl⟩⟩; obtain ⟨Ao46, co46, eo46⟩ := Kd.R_slice HO325.out; subst eo46; obtain ⟨Ao47, co47, eo47⟩ := Kd.R_slice HO329.out; subst eo47) | (go_at_call 24; (with_reducible refine (laws_likeInts.calls k _ _ t322 _ _ t326 true _ ?side1 ?side2 ?side3 ?side4 A37.out).mono ?_); (case side1 => repeat (first | exact (Kd.R_reads' HO325.out).2.2 | (with_reducible refine Kd.C_alloc ?_ _) | (with_reducible refine Kd.C_drewN ?_ _) | (with_reducible refine Kd.C_drew ?_))); (case side2 => exact (Kd.R_reads' HO325.out).2.1); (case side3 => repeat (first | exact (Kd.R_reads' HO329.out).2.2 | (with_reducible refine Kd.C_alloc ?_ _) | (with_reducible refine Kd.C_drewN ?_ _) | (with_reducible refine Kd.C_drew ?_))); (case side4 => exact (Kd.R_reads' HO329.out).2.1); rintro e w' ⟨rfl, ⟨nd, rfl⟩⟩) | (go_at_call 38; (with_reducible refine (impl_AreModules.calls k _ _ t298 t337 _ ?side1 ?side2 A41.out).mono ?_); (case side1 => repeat (first | exact (Kd.R_reads' HO301.out).2.2 | (with_reducible refine Kd.C_alloc ?_ _) | (with_reducible refine Kd.C_drewN ?_ _) | (with_reducible refine Kd.C_drew ?_))); (case side2 => exact (Kd.R_reads' HO301.out).2.1); rintro e w48 ⟨rfl, hb⟩; have n0_ := Aside0.mk (Kd.R_below (by (with_reducible repeat (first | apply Kd.R_alloc | apply Kd.R_drewN | apply Kd.R_drew)); exact HO301.out) hb); have n1_ := Aside0.mk (Kd.R_below (by (with_reducible repeat (first | apply Kd.R_alloc | apply Kd.R_drewN | apply Kd.R_drew)); exact HO309.out) hb); have n2_ := Aside0.mk (Kd.R_below (by (with_reducible repeat (first | apply Kd.R_alloc | apply Kd.R_drewN | apply Kd.R_drew)); exact HO313.out) hb); have n3_ := Aside0.mk (Kd.R_below (by (with_reducible repeat (first | apply Kd.R_alloc | apply Kd.R_drewN | apply Kd.R_drew)); exact HO317.out) hb); have n4_ := Aside0.mk (Kd.R_below (by (with_reducible repeat (first | apply Kd.R_alloc | apply Kd.R_drewN | apply Kd.R_drew)); exact HO321.out) hb); have n5_ := Aside0.mk (Kd.R_below (by (with_reducible repeat (first | apply Kd.R_alloc | apply Kd.R_drewN | apply Kd.R_drew)); exact HO325.out) hb); have n6_ := Aside0.mk (Kd.R_below (by (with_reducible repeat (first | apply Kd.R_alloc | apply Kd.R_drewN | apply Kd.R_drew)); exact HO329.out) hb); have n7_ := Aside0.mk (below_step (by repeat (first | (with_reducible first | exact HB.out | apply below_alloc | apply pw_below_drewN | apply below_drew1) | exact HB.out)) hb); clear HO301; clear HO309; clear HO313; clear HO317; clear HO321; clear HO325; clear HO329; clear HB; have HO301 := n0_; have HO309 := n1_; have HO313 := n2_; have HO317 := n3_; have HO321 := n4_; have HO325 := n5_; have HO329 := n6_; have HB := n7_; clear n0_ n1_ n2_ n3_ n4_ n5_ n6_ n7_; (try clear hb); (try clear hb2); (try clear hk); (try clear hi)))
                          go_meet
                          case rel => exact ⟨_, ((t337 != (t305 != 1))), (by first | rfl | (simp; done) | (simp [*]; done)), H', ⟨by first | omega | exact Nat.le_refl _⟩, ⟨by (with_reducible repeat (first | apply Kd.R_alloc | apply Kd.R_drewN | apply Kd.R_drew)); exact HO301.out⟩, ⟨by (with_reducible repeat (first | apply Kd.R_alloc | apply Kd.R_drewN | apply Kd.R_drew)); exact Kd.R_mono HO309.out (fun _ hk => ⟨hk.1.1.1.1.2, ⟨hk.1.1.1.2, hk.1.2⟩⟩)⟩, ⟨by (with_reducible repeat (first | apply Kd.R_alloc | apply Kd.R_drewN | apply Kd.R_drew)); exact Kd.R_mono HO313.out (fun _ hk => ⟨hk.1.1.1.1.2, ⟨hk.1.1.1.2, hk.1.2⟩⟩)⟩, ⟨by (with_reducible repeat (first | apply Kd.R_alloc | apply Kd.R_drewN | apply Kd.R_drew)); exact Kd.R_mono HO317.out (fun _ hk => ⟨hk.1.1.1.1.2, ⟨hk.1.1.1.2, hk.1.2⟩⟩)⟩, ⟨by (with_reducible repeat (first | apply Kd.R_alloc | apply Kd.R_drewN | apply Kd.R_drew)); exact Kd.R_mono HO325.out (fun _ hk => ⟨hk.1.1.1.1.2, ⟨hk.1.1.1.2, hk.1.1.2⟩⟩)⟩, ⟨by repeat (first | (with_reducible first | exact HB.out | apply below_alloc | apply pw_below_drewN | apply below_drew1) | exact HB.out)⟩⟩
                        · rw [if_neg c40] at H
                          have c40b0 : (t330 == t332) = false := beq_eq_false_iff_ne.mpr c40
                          have c40b1 : (t330 != t332) = true := bne_iff_ne.mpr c40
                          exact absurd ((laws_FnModules.j0_true H).trans hT) (by decide)
                      · rw [if_neg c39] at H
                        have c39b0 : (t331 == t333) = false := beq_eq_false_iff_ne.mpr c39
                        have c39b1 : (t331 != t333) = true := bne_iff_ne.mpr c39
                        exact absurd ((laws_FnModules.j0_true H).trans hT) (by decide)
                    · replace c38 := Bool.eq_false_iff.mpr c38
                      subst c38
                      have H1 : (laws_FnModules.j0 k t298 t299 t302 t303 t306 t310 t314 t322 t330 true) = some r := by rw [if_neg (show ¬ (false = true) by decide)] at H; exact H
                      clear H
                      have H := H1
                      clear H1
                      exact absurd ((laws_FnModules.j0_true H).trans hT) (by decide)
                  · rw [if_neg c36] at H
                    have c36b0 : (t323 == t327) = false := beq_eq_false_iff_ne.mpr c36
                    have c36b1 : (t323 != t327) = true := bne_iff_ne.mpr c36
                    exact absurd ((laws_FnModules.j0_true H).trans hT) (by decide)
                · replace c35 := Bool.eq_false_iff.mpr c35
                  subst c35
                  have H1 : (laws_FnModules.j0 k t298 t299 t302 t303 t306 t310 t314 t322 t330 true) = some r := by rw [if_neg (show ¬ (false = true) by decide)] at H; exact H
                  clear H
                  have H := H1
                  clear H1
                  exact absurd ((laws_FnModules.j0_true H).trans hT) (by decide)
              · rw [if_neg c33] at H
                have c33b0 : (t315 == t319) = false := beq_eq_false_iff_ne.mpr c33
                have c33b1 : (t315 != t319) = true := bne_iff_ne.mpr c33
                exact absurd ((laws_FnModules.j0_true H).trans hT) (by decide)
            · replace c32 := Bool.eq_false_iff.mpr c32
              subst c32
              have H1 : (laws_FnModules.j0 k t298 t299 t302 t303 t306 t310 t314 t322 t330 true) = some r := by rw [if_neg (show ¬ (false = true) by decide)] at H; exact H
              clear H
              have H := H1
              clear H1
              exact absurd ((laws_FnModules.j0_true H).trans hT) (by decide)
          · rw [if_neg c30] at H
            have c30b0 : (t307 == t311) = false := beq_eq_false_iff_ne.mpr c30
            have c30b1 : (t307 != t311) = true := bne_iff_ne.mpr c30
            exact absurd ((laws_FnModules.j0_true H).trans hT) (by decide)
        · rw [if_neg c29] at H
          have c29b0 : (t302 == t304) = false := beq_eq_false_iff_ne.mpr c29
          have c29b1 : (t302 != t304) = true := bne_iff_ne.mpr c29
          exact absurd ((laws_FnModules.j0_true H).trans hT) (by decide)
      · rw [if_neg c28] at H
        have c28b0 : (t303 == t305) = false := beq_eq_false_iff_ne.mpr c28
        have c28b1 : (t303 != t305) = true := bne_iff_ne.mpr c28
        (first | rw [c28b0] | (simp only [i64_w, i32_w]; rw [c28b0]) | skip)
        exact absurd ((laws_FnModules.j0_true H).trans hT) (by decide)
    case rest =>
      clear HC15
      try clear c1
      try clear c2
      try clear p2
      try clear c3
      try clear c4
      try clear c15
      try clear c27
      try clear c28
      try clear c28b0
      try clear c28b1
      try clear c29
      try clear c29b0
      try clear c29b1
      try clear c30
      try clear c30b0
      try clear c30b1
      try clear c31
      try clear c32
      try clear c33
      try clear c33b0
      try clear c33b1
      try clear c34
      try clear c35
      try clear c36
      try clear c36b0
      try clear c36b1
      try clear c37
      try clear c38
      try clear c39
      try clear c39b0
      try clear c39b1
      try clear c40
      try clear c40b0
      try clear c40b1
      obtain ⟨kq, x155_14, rfl, HA, HJ14, HO_3, HO_9, HO_11, HO_13, HO_17, HB⟩ := hcut
      cases kq with
      | zero => exact absurd HA.out (by simp [laws_FnModules.j0])
      | succ kj14 =>
        have H := HA.out
        clear HA
        simp only [laws_FnModules.j0] at H
        by_cases c79 : x155_14 = true
        · subst c79
          have H1 : (some false) = some r := by rw [if_pos rfl] at H; exact H
          clear H
          have H := H1
          clear H1
          exact absurd ((Option.some.inj H).trans hT) (by decide)
        · replace c79 := Bool.eq_false_iff.mpr c79
          subst c79
          have H1 : (if t303 = 0 then (if 0 ≤ t299 then (if t299 < (t298.length : Int) then (laws_FnModules.l0 kj14 t298 t299 t302 t306 t310 t314 t322 t330 ((rd_T47 t298 t299).f1) 0) else (none)) else (none)) else (some true)) = some r := by rw [if_neg (show ¬ (false = true) by decide)] at H; exact H
          clear H
          have H := H1
          clear H1
          by_cases c80 : t303 = 0
          · rw [if_pos c80] at H
            have c80b0 : (t303 == 0) = true := beq_iff_eq.mpr c80
            have c80b1 : (t303 != 0) = false := bne_eq_false_iff_eq.mpr c80
            clear c80
            by_cases c81 : 0 ≤ t299
            · rw [if_pos c81] at H
              have c81b0 : decide (0 ≤ t299) = true := decide_eq_true c81
              clear c81
              by_cases c82 : t299 < (t298.length : Int)
              · rw [if_pos c82] at H
                have c82b0 : decide (t299 < (t298.length : Int)) = true := decide_eq_true c82
                clear c82
                have H' := Aside0.mk H
                clear H
                have p338 : 0 ≤ (t299 : Int) := of_decide_eq_true (by first | (with_reducible assumption) | assumption)
                have q338 : t299 < (t298.length : Int) := of_decide_eq_true (by first | (with_reducible assumption) | assumption)
                obtain ⟨ad338, e338, hx338_0, hx338_1⟩ := at_T47 (Kd.R_reads' HO_3.out).2.2 t299 p338 q338
                cases e338
                replace p338 := eq_true p338
                replace q338 := eq_true q338
                go_wp2
                go_loopg [25, 26] kj14 (fun kq v25 v26 w' => ∃ (x25_2 : Int) (x26_2 : Int), v25 = .int .i64 x25_2 ∧ v26 = .int .i64 x26_2 ∧ Aside0 (laws_FnModules.l0 kq t298 t299 t302 t306 t310 t314 t322 t330 x25_2 x26_2 = some r) ∧ Aside0 (kq ≤ kj14) ∧ Aside0 (Kd.R k47 47 w' w.heap.size (fun _ => True) (.slice (some ad338) t298.length co17) t298) ∧ Aside0 (Kd.R (Kd.int .i64) 2 w' w.heap.size (fun k_ => some k_ ≠ (v312 : Value).ownBlock ∧ some k_ ≠ (v316 : Value).ownBlock ∧ some k_ ≠ (v324 : Value).ownBlock) v308 t306) ∧ Aside0 (Kd.R (Kd.int .i64) 2 w' w.heap.size (fun k_ => some k_ ≠ (v308 : Value).ownBlock ∧ some k_ ≠ (v316 : Value).ownBlock ∧ some k_ ≠ (v324 : Value).ownBlock) v312 t310) ∧ Aside0 (Kd.R (Kd.int .i64) 2 w' w.heap.size (fun k_ => some k_ ≠ (v308 : Value).ownBlock ∧ some k_ ≠ (v312 : Value).ownBlock ∧ some k_ ≠ (v324 : Value).ownBlock) v316 t314) ∧ Aside0 (Kd.R (Kd.int .i64) 2 w' w.heap.size (fun k_ => some k_ ≠ (v308 : Value).ownBlock ∧ some k_ ≠ (v312 : Value).ownBlock ∧ some k_ ≠ (v316 : Value).ownBlock) v324 t322) ∧ Aside0 (Below w.heap.size w w'))
                case atStart => exact ⟨((rd_T47 t298 t299).f1), (0), (by first | rfl | (simp; done) | (simp [*]; done)), (by first | rfl | (simp; done) | (simp [*]; done)), H', ⟨Nat.le_refl _⟩, ⟨by (with_reducible repeat (first | apply Kd.R_alloc | apply Kd.R_drewN | apply Kd.R_drew)); exact HO_3.out⟩, ⟨by (with_reducible repeat (first | apply Kd.R_alloc | apply Kd.R_drewN | apply Kd.R_drew)); exact HO_9.out⟩, ⟨by (with_reducible repeat (first | apply Kd.R_alloc | apply Kd.R_drewN | apply Kd.R_drew)); exact HO_11.out⟩, ⟨by (with_reducible repeat (first | apply Kd.R_alloc | apply Kd.R_drewN | apply Kd.R_drew)); exact HO_13.out⟩, ⟨by (with_reducible repeat (first | apply Kd.R_alloc | apply Kd.R_drewN | apply Kd.R_drew)); exact HO_17.out⟩, ⟨by repeat (first | (with_reducible first | exact HB.out | apply below_alloc | apply pw_below_drewN | apply below_drew1) | exact HB.out)⟩⟩
                case round =>
                  clear H'
                  try clear c1
                  try clear c2
                  try clear p2
                  try clear c3
                  try clear p3
                  try clear q3
                  try clear hx3
                  try clear c4
                  try clear c7
                  try clear c8
                  try clear c15
                  try clear c27
                  try clear c28
                  try clear c28b0
                  try clear c28b1
                  try clear c29
                  try clear c29b0
                  try clear c29b1
                  try clear c30
                  try clear c30b0
                  try clear c30b1
                  try clear c31
                  try clear c32
                  try clear c33
                  try clear c33b0
                  try clear c33b1
                  try clear p33
                  try clear q33
                  try clear hx33
                  try clear c34
                  try clear c35
                  try clear c36
                  try clear c36b0
                  try clear c36b1
                  try clear c37
                  try clear c38
                  try clear c39
                  try clear c39b0
                  try clear c39b1
                  try clear c40
                  try clear c40b0
                  try clear c40b1
                  try clear c79
                  try clear c80
                  try clear c80b0
                  try clear c80b1
                  try clear c81
                  try clear c81b0
                  try clear c82
                  try clear c82b0
                  try clear hx338_0
                  try clear hx338_1
                  try clear p2
                  try clear p338
                  try clear q338
                  obtain ⟨x25_2, x26_2, rfl, rfl, HA, HK2, HO_3, HO_9, HO_11, HO_13, HO_17, HB⟩ := hrel
                  cases gk with
                  | zero => exact absurd HA.out (by simp [laws_FnModules.l0])
                  | succ k2 =>
                    have H := HA.out
                    clear HA
                    simp only [laws_FnModules.l0] at H
                    by_cases c83 : x26_2 < (t314.length : Int)
                    · rw [if_pos c83] at H
                      have c83b0 : decide (x26_2 < (t314.length : Int)) = true := decide_eq_true c83
                      clear c83
                      by_cases c84 : 0 ≤ x26_2
                      · rw [if_pos c84] at H
                        have c84b0 : decide (0 ≤ x26_2) = true := decide_eq_true c84
                        clear c84
                        replace H := Option.bind_eq_some_iff.mp H
                        obtain ⟨⟨t343, t344⟩, A850, H⟩ := H
                        replace H : ((impl_DepthOf.f k2 t298 (rd t314 x26_2)).bind fun bt346 => (if t344 = 0 then (if bt346.2 = 0 then (if bt346.1 = (wrap64 (t302 + 1)) then ((laws_hasInt.f k2 t322 (rd t314 x26_2)).bind fun t349 => (if t349 = true then (laws_FnModules.l0 k2 t298 t299 t302 t306 t310 t314 t322 t330 (wrap64 (x25_2 + t343)) (wrap64 (x26_2 + 1))) else (some false))) else (some false)) else (some false)) else (some false))) = some r := H
                        have A85 := Aside0.mk A850
                        clear A850
                        replace H := Option.bind_eq_some_iff.mp H
                        obtain ⟨⟨t346, t347⟩, A860, H⟩ := H
                        replace H : (if t344 = 0 then (if t347 = 0 then (if t346 = (wrap64 (t302 + 1)) then ((laws_hasInt.f k2 t322 (rd t314 x26_2)).bind fun t349 => (if t349 = true then (laws_FnModules.l0 k2 t298 t299 t302 t306 t310 t314 t322 t330 (wrap64 (x25_2 + t343)) (wrap64 (x26_2 + 1))) else (some false))) else (some false)) else (some false)) else (some false)) = some r := H
                        have A86 := Aside0.mk A860
                        clear A860
                        by_cases c87 : t344 = 0
                        · rw [if_pos c87] at H
                          have c87b0 : (t344 == 0) = true := beq_iff_eq.mpr c87
                          have c87b1 : (t344 != 0) = false := bne_eq_false_iff_eq.mpr c87
                          clear c87
                          by_cases c88 : t347 = 0
                          · rw [if_pos c88] at H
                            have c88b0 : (t347 == 0) = true := beq_iff_eq.mpr c88
                            have c88b1 : (t347 != 0) = false := bne_eq_false_iff_eq.mpr c88
                            clear c88
                            by_cases c89 : t346 = (wrap64 (t302 + 1))
                            · rw [if_pos c89] at H
                              have c89b0 : (t346 == (wrap64 (t302 + 1))) = true := beq_iff_eq.mpr c89
                              have c89b1 : (t346 != (wrap64 (t302 + 1))) = false := bne_eq_false_iff_eq.mpr c89
                              clear c89
                              replace H := Option.bind_eq_some_iff.mp H
                              obtain ⟨t349, A900, H⟩ := H
                              replace H : (if t349 = true then (laws_FnModules.l0 k2 t298 t299 t302 t306 t310 t314 t322 t330 (wrap64 (x25_2 + t343)) (wrap64 (x26_2 + 1))) else (some false)) = some r := H
                              have A90 := Aside0.mk A900
                              clear A900
                              by_cases c91 : t349 = true
                              · subst c91
                                have H1 : (laws_FnModules.l0 k2 t298 t299 t302 t306 t310 t314 t322 t330 (wrap64 (x25_2 + t343)) (wrap64 (x26_2 + 1))) = some r := by rw [if_pos rfl] at H; exact H
                                clear H
                                have H := H1
                                clear H1
                                have H' := Aside0.mk H
                                clear H
                                obtain ⟨Ao92, co92, eo92⟩ := Kd.R_slice HO_13.out
                                subst eo92
                                have p342 : 0 ≤ (x26_2 : Int) := of_decide_eq_true (by first | (with_reducible assumption) | assumption)
                                have q342 : x26_2 < (t314.length : Int) := of_decide_eq_true (by first | (with_reducible assumption) | assumption)
                                obtain ⟨ad342, e342, hx342_0⟩ := Kd.at_int (Kd.R_reads' HO_13.out).2.2 x26_2 p342 q342
                                cases e342
                                replace p342 := eq_true p342
                                replace q342 := eq_true q342
                                go_wp2_with (first | ((with_reducible refine gate_callee (f := 36) rfl ?_); refine goesL_ (some 175) rfl rfl Try.func36 (by kernel_rfl) rfl #[.slice (some ad338) t298.length co17, .int .i64 (rd t314 x26_2)] rfl (by (try simp only [List.map_toArray, List.map_cons, List.map_nil]); first | done | rfl | (simp only [List.length_drop, List.length_take]; rfl)) ?_; (with_reducible refine (impl_PinsBelow.calls k2 _ _ t298 (rd t314 x26_2) t343 t344 _ ?side1 ?side2 A85.out).mono ?_); (case side1 => repeat (first | exact (Kd.R_reads' HO_3.out).2.2 | (with_reducible refine Kd.C_alloc ?_ _) | (with_reducible refine Kd.C_drewN ?_ _) | (with_reducible refine Kd.C_drew ?_))); (case side2 => exact (Kd.R_reads' HO_3.out).2.1); rintro e w93 ⟨rfl, hb⟩; refine ⟨_, rfl, ?_⟩; have n0_ := Aside0.mk (Kd.R_below (by (with_reducible repeat (first | apply Kd.R_alloc | apply Kd.R_drewN | apply Kd.R_drew)); exact HO_3.out) hb); have n1_ := Aside0.mk (Kd.R_below (by (with_reducible repeat (first | apply Kd.R_alloc | apply Kd.R_drewN | apply Kd.R_drew)); exact HO_9.out) hb); have n2_ := Aside0.mk (Kd.R_below (by (with_reducible repeat (first | apply Kd.R_alloc | apply Kd.R_drewN | apply Kd.R_drew)); exact HO_11.out) hb); have n3_ := Aside0.mk (Kd.R_below (by (with_reducible repeat (first | apply Kd.R_alloc | apply Kd.R_drewN | apply Kd.R_drew)); exact HO_13.out) hb); have n4_ := Aside0.mk (Kd.R_below (by (with_reducible repeat (first | apply Kd.R_alloc | apply Kd.R_drewN | apply Kd.R_drew)); exact HO_17.out) hb); have n5_ := Aside0.mk (below_step (by repeat (first | (with_reducible first | exact HB.out | apply below_alloc | apply pw_below_drewN | apply below_drew1) | exact HB.out)) hb); clear HO_3; clear HO_9; clear HO_11; clear HO_13; clear HO_17; clear HB; have HO_3 := n0_; have HO_9 := n1_; have HO_11 := n2_; have HO_13 := n3_; have HO_17 := n4_; have HB := n5_; clear n0_ n1_ n2_ n3_ n4_ n5_; (try clear hb); (try clear hb2); (try clear hk); (try clear hi); have p345 : 0 ≤ (x26_2 : Int) := of_decide_eq_true (by first | (with_reducible assumption) | assumption); have q345 : x26_2 < (t314.length : Int) := of_decide_eq_true (by first | (with_reducible assumption) | assumption); obtain ⟨ad345, e345, hx345_0⟩ := Kd.at_int (Kd.R_reads' HO_13.out).2.2 x26_2 p345 q345; obtain rfl : ad342 = ad345 := (by injection e345); replace p345 := eq_true p345; replace q345 := eq_true q345) | ((with_reducible refine gate_callee (f := 28) rfl ?_); refine goesL_ (some 184) rfl rfl Try.func28 (by kernel_rfl) rfl #[.slice (some ad338) t298.length co17, .int .i64 (rd t314 x26_2)] rfl (by (try simp only [List.map_toArray, List.map_cons, List.map_nil]); first | done | rfl | (simp only [List.length_drop, List.length_take]; rfl)) ?_; (with_reducible refine (impl_DepthOf.calls k2 _ _ t298 (rd t314 x26_2) t346 t347 _ ?side1 ?side2 A86.out).mono ?_); (case side1 => repeat (first | exact (Kd.R_reads' HO_3.out).2.2 | (with_reducible refine Kd.C_alloc ?_ _) | (with_reducible refine Kd.C_drewN ?_ _) | (with_reducible refine Kd.C_drew ?_))); (case side2 => exact (Kd.R_reads' HO_3.out).2.1); rintro e w94 ⟨rfl, hb⟩; refine ⟨_, rfl, ?_⟩; have n0_ := Aside0.mk (Kd.R_below (by (with_reducible repeat (first | apply Kd.R_alloc | apply Kd.R_drewN | apply Kd.R_drew)); exact HO_3.out) hb); have n1_ := Aside0.mk (Kd.R_below (by (with_reducible repeat (first | apply Kd.R_alloc | apply Kd.R_drewN | apply Kd.R_drew)); exact HO_9.out) hb); have n2_ := Aside0.mk (Kd.R_below (by (with_reducible repeat (first | apply Kd.R_alloc | apply Kd.R_drewN | apply Kd.R_drew)); exact HO_11.out) hb); have n3_ := Aside0.mk (Kd.R_below (by (with_reducible repeat (first | apply Kd.R_alloc | apply Kd.R_drewN | apply Kd.R_drew)); exact HO_13.out) hb); have n4_ := Aside0.mk (Kd.R_below (by (with_reducible repeat (first | apply Kd.R_alloc | apply Kd.R_drewN | apply Kd.R_drew)); exact HO_17.out) hb); have n5_ := Aside0.mk (below_step (by repeat (first | (with_reducible first | exact HB.out | apply below_alloc | apply pw_below_drewN | apply below_drew1) | exact HB.out)) hb); clear HO_3; clear HO_9; clear HO_11; clear HO_13; clear HO_17; clear HB; have HO_3 := n0_; have HO_9 := n1_; have HO_11 := n2_; have HO_13 := n3_; have HO_17 := n4_; have HB := n5_; clear n0_ n1_ n2_ n3_ n4_ n5_; (try clear hb); (try clear hb2); (try clear hk); (try clear hi); have p348 : 0 ≤ (x26_2 : Int) := of_decide_eq_true (by first | (with_reducible assumption) | assumption); have q348 : x26_2 < (t314.length : Int) := of_decide_eq_true (by first | (with_reducible assumption) | assumption); obtain ⟨ad348, e348, hx348_0⟩ := Kd.at_int (Kd.R_reads' HO_13.out).2.2 x26_2 p348 q348; obtain rfl : ad342 = ad348 := (by injection e348); replace p348 := eq_true p348; replace q348 := eq_true q348; obtain ⟨Ao95, co95, eo95⟩ := Kd.R_slice HO_17.out; subst eo95) | (go_at_call 26; (with_reducible refine (laws_hasInt.calls k2 _ _ t322 (rd t314 x26_2) true _ ?side1 ?side2 A90.out).mono ?_); (case side1 => repeat (first | exact (Kd.R_reads' HO_17.out).2.2 | (with_reducible refine Kd.C_alloc ?_ _) | (with_reducible refine Kd.C_drewN ?_ _) | (with_reducible refine Kd.C_drew ?_))); (case side2 => exact (Kd.R_reads' HO_17.out).2.1); rintro e w' ⟨rfl, ⟨nd, rfl⟩⟩))
                                go_roundg k2
                                case measure => have := HJ14.out; have := HK2.out; omega
                                case rel => exact ⟨(wrap64 (x25_2 + t343)), (wrap64 (x26_2 + 1)), (by first | rfl | (simp; done) | (simp [*]; done)), (by first | rfl | (simp; done) | (simp [*]; done)), H', ⟨by have := HJ14.out; have := HK2.out; omega⟩, ⟨by (with_reducible repeat (first | apply Kd.R_alloc | apply Kd.R_drewN | apply Kd.R_drew)); exact HO_3.out⟩, ⟨by (with_reducible repeat (first | apply Kd.R_alloc | apply Kd.R_drewN | apply Kd.R_drew)); exact HO_9.out⟩, ⟨by (with_reducible repeat (first | apply Kd.R_alloc | apply Kd.R_drewN | apply Kd.R_drew)); exact HO_11.out⟩, ⟨by (with_reducible repeat (first | apply Kd.R_alloc | apply Kd.R_drewN | apply Kd.R_drew)); exact HO_13.out⟩, ⟨by (with_reducible repeat (first | apply Kd.R_alloc | apply Kd.R_drewN | apply Kd.R_drew)); exact HO_17.out⟩, ⟨by repeat (first | (with_reducible first | exact HB.out | apply below_alloc | apply pw_below_drewN | apply below_drew1) | exact HB.out)⟩⟩
                              · replace c91 := Bool.eq_false_iff.mpr c91
                                subst c91
                                have H1 : (some false) = some r := by rw [if_neg (show ¬ (false = true) by decide)] at H; exact H
                                clear H
                                have H := H1
                                clear H1
                                exact absurd ((Option.some.inj H).trans hT) (by decide)
                            · rw [if_neg c89] at H
                              have c89b0 : (t346 == (wrap64 (t302 + 1))) = false := beq_eq_false_iff_ne.mpr c89
                              have c89b1 : (t346 != (wrap64 (t302 + 1))) = true := bne_iff_ne.mpr c89
                              exact absurd ((Option.some.inj H).trans hT) (by decide)
                          · rw [if_neg c88] at H
                            have c88b0 : (t347 == 0) = false := beq_eq_false_iff_ne.mpr c88
                            have c88b1 : (t347 != 0) = true := bne_iff_ne.mpr c88
                            exact absurd ((Option.some.inj H).trans hT) (by decide)
                        · rw [if_neg c87] at H
                          have c87b0 : (t344 == 0) = false := beq_eq_false_iff_ne.mpr c87
                          have c87b1 : (t344 != 0) = true := bne_iff_ne.mpr c87
                          exact absurd ((Option.some.inj H).trans hT) (by decide)
                      · rw [if_neg c84] at H
                        exact absurd H (by simp)
                    · rw [if_neg c83] at H
                      have c83b0 : decide (x26_2 < (t314.length : Int)) = false := decide_eq_false c83
                      clear c83
                      by_cases c109 : x25_2 = t330
                      · rw [if_pos c109] at H
                        have c109b0 : (x25_2 == t330) = true := beq_iff_eq.mpr c109
                        have c109b1 : (x25_2 != t330) = false := bne_eq_false_iff_eq.mpr c109
                        clear c109
                        by_cases c110 : (t306.length : Int) = (wrap64 (t302 + 1))
                        · rw [if_pos c110] at H
                          have c110b0 : ((t306.length : Int) == (wrap64 (t302 + 1))) = true := beq_iff_eq.mpr c110
                          have c110b1 : ((t306.length : Int) != (wrap64 (t302 + 1))) = false := bne_eq_false_iff_eq.mpr c110
                          clear c110
                          by_cases c111 : 0 < (t306.length : Int)
                          · rw [if_pos c111] at H
                            have c111b0 : decide (0 < (t306.length : Int)) = true := decide_eq_true c111
                            have c111b1 : decide (0 < t306.length) = true := decide_eq_true (by omega)
                            clear c111
                            by_cases c112 : (rd t306 0) = t299
                            · rw [if_pos c112] at H
                              have c112b0 : ((rd t306 0) == t299) = true := beq_iff_eq.mpr c112
                              have c112b1 : ((rd t306 0) != t299) = false := bne_eq_false_iff_eq.mpr c112
                              clear c112
                              obtain ⟨ji113, hji113⟩ : ∃ j_ : Int, (wrap64 ((t310.length : Int) - 1)) = j_ := ⟨_, rfl⟩
                              replace H : (if 0 ≤ (ji113) then (if (ji113) < (t306.length : Int) then (if (rd t306 (ji113)) = 0 then ((laws_hasInt.f k2 t322 t299).bind fun t341 => (some t341)) else (some false)) else (none)) else (none)) = some r := by first | (rw [hji113] at H; exact H) | (simp only [hji113] at H ⊢; exact H)
                              have hji113w : (IntKind.i64.wrap ((t310.length : Int) - 1)) = ji113 := (i64_w _).trans hji113
                              by_cases c114 : 0 ≤ (ji113)
                              · rw [if_pos c114] at H
                                have c114b0 : decide (0 ≤ (ji113)) = true := decide_eq_true c114
                                clear c114
                                by_cases c115 : (ji113) < (t306.length : Int)
                                · rw [if_pos c115] at H
                                  have c115b0 : decide ((ji113) < (t306.length : Int)) = true := decide_eq_true c115
                                  clear c115
                                  by_cases c116 : (rd t306 (ji113)) = 0
                                  · rw [if_pos c116] at H
                                    have c116b0 : ((rd t306 (ji113)) == 0) = true := beq_iff_eq.mpr c116
                                    have c116b1 : ((rd t306 (ji113)) != 0) = false := bne_eq_false_iff_eq.mpr c116
                                    clear c116
                                    replace H := Option.bind_eq_some_iff.mp H
                                    obtain ⟨t341, A1170, H⟩ := H
                                    replace H : (some t341) = some r := H
                                    have A117 := Aside0.mk A1170
                                    clear A1170
                                    obtain rfl := Option.some.inj H
                                    obtain ⟨Ao118, co118, eo118⟩ := Kd.R_slice HO_13.out
                                    subst eo118
                                    obtain ⟨Ao119, co119, eo119⟩ := Kd.R_slice HO_9.out
                                    subst eo119
                                    have p339 : 0 ≤ (0 : Int) := (by omega)
                                    have q339 : 0 < (t306.length : Int) := of_decide_eq_true (by first | (with_reducible assumption) | assumption)
                                    obtain ⟨ad339, e339, hx339_0⟩ := Kd.at_int (Kd.R_reads' HO_9.out).2.2 0 p339 q339
                                    cases e339
                                    have qi339 : (0 < t306.length) = True := eq_true (by omega)
                                    (try rw [show ((0 : Int)).toNat = 0 from rfl] at hx339_0)
                                    (try rw [Addr.add_zero'] at hx339_0)
                                    replace p339 := eq_true p339
                                    replace q339 := eq_true q339
                                    obtain ⟨Ao120, co120, eo120⟩ := Kd.R_slice HO_11.out
                                    subst eo120
                                    have p340 : 0 ≤ ((ji113) : Int) := of_decide_eq_true (by first | (with_reducible assumption) | assumption)
                                    have q340 : (ji113) < (t306.length : Int) := of_decide_eq_true (by first | (with_reducible assumption) | assumption)
                                    obtain ⟨ad340, e340, hx340_0⟩ := Kd.at_int (Kd.R_reads' HO_9.out).2.2 (ji113) p340 q340
                                    obtain rfl : ad339 = ad340 := (by injection e340)
                                    replace p340 := eq_true p340
                                    replace q340 := eq_true q340
                                    obtain ⟨Ao121, co121, eo121⟩ := Kd.R_slice HO_17.out
                                    subst eo121
                                    go_wp2_with (first | (go_at_call 26; (with_reducible refine (laws_hasInt.calls k2 _ _ t322 t299 t341 _ ?side1 ?side2 A117.out).mono ?_); (case side1 => repeat (first | exact (Kd.R_reads' HO_17.out).2.2 | (with_reducible refine Kd.C_alloc ?_ _) | (with_reducible refine Kd.C_drewN ?_ _) | (with_reducible refine Kd.C_drew ?_))); (case side2 => exact (Kd.R_reads' HO_17.out).2.1); rintro e w' ⟨rfl, ⟨nd, rfl⟩⟩))
                                    go_ret
                                    exact ⟨by first | rfl | (simp [errW_none, errW_some] <;> rfl) | (simp only [← hji113]; first | rfl | (simp [errW_none, errW_some] <;> rfl)) | (simp [*, errW_none, errW_some] <;> rfl), by repeat (first | (with_reducible first | exact HB.out | apply below_alloc | apply pw_below_drewN | apply below_drew1) | exact HB.out)⟩
                                  · rw [if_neg c116] at H
                                    have c116b0 : ((rd t306 (ji113)) == 0) = false := beq_eq_false_iff_ne.mpr c116
                                    have c116b1 : ((rd t306 (ji113)) != 0) = true := bne_iff_ne.mpr c116
                                    exact absurd ((Option.some.inj H).trans hT) (by decide)
                                · rw [if_neg c115] at H
                                  exact absurd H (by simp)
                              · rw [if_neg c114] at H
                                exact absurd H (by simp)
                            · rw [if_neg c112] at H
                              have c112b0 : ((rd t306 0) == t299) = false := beq_eq_false_iff_ne.mpr c112
                              have c112b1 : ((rd t306 0) != t299) = true := bne_iff_ne.mpr c112
                              exact absurd ((Option.some.inj H).trans hT) (by decide)
                          · rw [if_neg c111] at H
                            exact absurd H (by simp)
                        · rw [if_neg c110] at H
                          have c110b0 : ((t306.length : Int) == (wrap64 (t302 + 1))) = false := beq_eq_false_iff_ne.mpr c110
                          have c110b1 : ((t306.length : Int) != (wrap64 (t302 + 1))) = true := bne_iff_ne.mpr c110
                          exact absurd ((Option.some.inj H).trans hT) (by decide)
                      · rw [if_neg c109] at H
                        have c109b0 : (x25_2 == t330) = false := beq_eq_false_iff_ne.mpr c109
                        have c109b1 : (x25_2 != t330) = true := bne_iff_ne.mpr c109
                        exact absurd ((Option.some.inj H).trans hT) (by decide)
              · rw [if_neg c82] at H
                exact absurd H (by simp)
            · rw [if_neg c81] at H
              exact absurd H (by simp)
          · rw [if_neg c80] at H
            have c80b0 : (t303 == 0) = false := beq_eq_false_iff_ne.mpr c80
            have c80b1 : (t303 != 0) = true := bne_iff_ne.mpr c80
            obtain rfl := Option.some.inj H
            go_wp2
            go_ret
            exact ⟨by first | rfl | (simp [errW_none, errW_some] <;> rfl) | (simp [*, errW_none, errW_some] <;> rfl), by repeat (first | (with_reducible first | exact HB.out | apply below_alloc | apply pw_below_drewN | apply below_drew1) | exact HB.out)⟩
/-- THE ONE PURE STATEMENT of laws_FnModules: yours. -/
def laws_FnModules.Pure : Prop := ∀ (l0 : List Int), l0.length ≤ maxLen → l0.length * 1 ≤ 140737488351232 → (∀ x ∈ l0, (Lit.int .u8 x).wf = true) → ∃ k, laws_FnModules.f k l0 = some true
theorem laws_FnModules.walk (P : laws_FnModules.Pure) (a0 : Option Addr) (len0 cap0 : Nat) (z0 : List Int) (w : World) (w0 : (a0 = none ∧ len0 = 0 ∧ cap0 = 0 ∧ z0 = []) ∨ ∃ x, a0 = some x ∧ len0 ≤ cap0 ∧ cap0 ≤ maxLen ∧ z0.length = cap0 ∧ (∀ i, i < z0.length → w.cell? (x.add i) = some (.int .u8 (z0.getD i 0))) ∧ ∀ n ∈ z0, (Lit.int .u8 n).wf = true) (y0 : len0 * 1 ≤ 140737488351232) :
    Calls Try.prog 4 #[.slice a0 len0 cap0] w fun e w' => e = .returned (.bool true) ∧ Below w.heap.size w w' := by
  obtain ⟨l0, rfl, hr0, hm0, hw0, hc0⟩ := ReadsInt.ofRowC w0
  obtain ⟨k, h⟩ := P l0 hm0 y0 hw0
  refine (laws_FnModules.calls k _ _ l0 true w (Kd.C_of_reads (d := (0 : Int)) (h1 := fun _ => rfl) hr0) hc0 h rfl).mono ?_
  rintro e w' ⟨rfl, hd⟩
  exact ⟨rfl, hd⟩
end Go.Proofs.Ytmahecjbejffoaa.PFnModules
