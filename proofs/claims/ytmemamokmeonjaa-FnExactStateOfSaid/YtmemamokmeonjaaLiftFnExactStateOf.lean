/- Contracts for the law FnExactStateOf: 'toInt64S' and 'intactInt64S' with what lies behind the slices' length. No condition but what each says. -/
import Derived.Test.YtmemamokmeonjaaPFnExactStateOfx0
import Derived.Test.YtmemamokmeonjaaQFnExactStateOfa
import Derived.Test.YtmemamokmeonjaaQFnExactStateOfb
import Derived.Test.YtmemamokmeonjaaQFnExactStateOfc
import Derived.Test.YtmemamokmeonjaaOwn
import Derived.Test.YtmemamokmeonjaaPureFnExactStateOf
namespace Go.Proofs.Ytmemamokmeonjaa.PFnExactStateOf
open Go.RowKit Go.Proofs.YtmemamokmeonjaaW.PrintWords Go.Proofs.YtmemamokmeonjaaW.PrintLast Go.Proofs.YtmemamokmeonjaaW.PrintMore Go.Proofs.Ytmemamokmeonjaa.Owned Go.Proofs.Ytmemamokmeonjaa.Opening
attribute [local go_sem] max2_int min2_int max_two min_two max_three min_three max_four min_four
set_option linter.unusedVariables false
set_option linter.unusedSimpArgs false
open Go.Proofs.Ytmemamokmeonjaa.Pure (w64)
/-! full_toInt64S: what lies behind the length, too (turned out of the printed walk by a program of this session) -/
mutual
def full_toInt64S.j0 : Nat → List Int → Bool → Option (List Int)
  | 0, _, _ => none
  | k + 1, x0, x13 => if x13 = true then (none : Option (List Int)) else ((laws_roomBehind.f (x0.length : Int)).bind fun t128 => (if 0 ≤ (wrap64 ((x0.length : Int) + t128)) then (if (wrap64 ((x0.length : Int) + t128) : Int).toNat ≤ 35184372088832 then (full_toInt64S.l0 k x0 (List.replicate (wrap64 ((x0.length : Int) + t128) : Int).toNat 0) 0) else (none)) else (none)))
def full_toInt64S.l0 : Nat → List Int → List Int → Int → Option (List Int)
  | 0, _, _, _ => none
  | k + 1, x0, x5, x6 => if x6 < (x0.length : Int) then (if 0 ≤ x6 then (if x6 < (x5.length : Int) then (full_toInt64S.l0 k x0 (x5.set (x6 : Int).toNat (rd x0 x6)) (wrap64 (x6 + 1))) else (none)) else (none)) else (full_toInt64S.l1 k x0 x5 (x0.length : Int))
def full_toInt64S.l1 : Nat → List Int → List Int → Int → Option (List Int)
  | 0, _, _, _ => none
  | k + 1, x0, x5, x7 => if x7 < (x5.length : Int) then (if 0 ≤ x7 then (full_toInt64S.l1 k x0 (x5.set (x7 : Int).toNat (-7000000000000000101)) (wrap64 (x7 + 1))) else (none)) else (if 0 ≤ (x0.length : Int) then (if (x0.length : Int) ≤ (x5.length : Int) then (some x5) else (none)) else (none))
end
def full_toInt64S.f (k : Nat) (l0 : List Int) (a1 : Bool) : Option (List Int) := if a1 = true then (full_toInt64S.j0 k l0 ((l0.length : Int) == 0)) else (full_toInt64S.j0 k l0 false)
set_option maxHeartbeats 8000000 in
set_option maxRecDepth 100000 in
theorem full_toInt64S.calls (k : Nat) (A0 : Option Addr) (c0 : Nat) (l0 : List Int) (a1 : Bool) (r : List Int) (w : World) (hr0 : Kd.C (Kd.int .i64) w A0 l0.length l0) (hc0 : l0.length ≤ c0) (h : full_toInt64S.f k l0 a1 = some r) :
    Calls Try.prog 131 #[.slice A0 l0.length c0, .bool a1] w fun e w' => ToPost (Kd.int .i64) 2 l0.length r w e w' := by
  have HR0 := Aside0.mk hr0
  have HC0 := Aside0.mk hc0
  clear hr0 hc0
  have HB := Aside0.mk (Below.refl w.heap.size w)
  have H : (if a1 = true then (full_toInt64S.j0 k l0 ((l0.length : Int) == 0)) else (full_toInt64S.j0 k l0 false)) = some r := h
  clear h
  have HC3 := Aside0.mk H
  clear H
  go_enter Try.func131, Try.ntmps131
  go_upto_region 1 with (fail)
  go_cut [13] (fun v13 wc => ∃ (kq : Nat) (x13_2 : Bool), v13 = .bool x13_2 ∧ Aside0 (full_toInt64S.j0 kq l0 x13_2 = some r) ∧ Aside0 (kq ≤ k) ∧ Aside0 (Below w.heap.size w wc))
  case first =>
    have H := HC3.out
    clear HC3
    by_cases c4 : a1 = true
    · subst c4
      have H1 : (full_toInt64S.j0 k l0 ((l0.length : Int) == 0)) = some r := by rw [if_pos rfl] at H; exact H
      clear H
      have H := H1
      clear H1
      have H' := Aside0.mk H
      clear H
      go_wp2
      go_meet
      case rel => exact ⟨_, (((l0.length : Int) == 0)), (by first | rfl | (simp; done) | (simp [*]; done)), H', ⟨by first | omega | exact Nat.le_refl _⟩, ⟨by repeat (first | (with_reducible first | exact HB.out | apply below_alloc | apply pw_below_drewN | apply below_drew1) | exact HB.out)⟩⟩
    · replace c4 := Bool.eq_false_iff.mpr c4
      subst c4
      have H1 : (full_toInt64S.j0 k l0 false) = some r := by rw [if_neg (show ¬ (false = true) by decide)] at H; exact H
      clear H
      have H := H1
      clear H1
      have H' := Aside0.mk H
      clear H
      go_wp2
      go_meet
      case rel => exact ⟨_, (false), (by first | rfl | (simp; done) | (simp [*]; done)), H', ⟨by first | omega | exact Nat.le_refl _⟩, ⟨by repeat (first | (with_reducible first | exact HB.out | apply below_alloc | apply pw_below_drewN | apply below_drew1) | exact HB.out)⟩⟩
  case rest =>
    clear HC3
    try clear c1
    try clear p2
    try clear c4
    obtain ⟨kq, x13_2, rfl, HA, HJ2, HB⟩ := hcut
    cases kq with
    | zero => exact absurd HA.out (by simp [full_toInt64S.j0])
    | succ kj2 =>
      have H := HA.out
      clear HA
      simp only [full_toInt64S.j0] at H
      by_cases c5 : x13_2 = true
      · subst c5
        rw [if_pos rfl] at H
        exact absurd H (by simp)
      · replace c5 := Bool.eq_false_iff.mpr c5
        subst c5
        have H1 : ((laws_roomBehind.f (l0.length : Int)).bind fun t128 => (if 0 ≤ (wrap64 ((l0.length : Int) + t128)) then (if (wrap64 ((l0.length : Int) + t128) : Int).toNat ≤ 35184372088832 then (full_toInt64S.l0 kj2 l0 (List.replicate (wrap64 ((l0.length : Int) + t128) : Int).toNat 0) 0) else (none)) else (none))) = some r := by rw [if_neg (show ¬ (false = true) by decide)] at H; exact H
        clear H
        have H := H1
        clear H1
        replace H := Option.bind_eq_some_iff.mp H
        obtain ⟨t128, A60, H⟩ := H
        replace H : (if 0 ≤ (wrap64 ((l0.length : Int) + t128)) then (if (wrap64 ((l0.length : Int) + t128) : Int).toNat ≤ 35184372088832 then (full_toInt64S.l0 kj2 l0 (List.replicate (wrap64 ((l0.length : Int) + t128) : Int).toNat 0) 0) else (none)) else (none)) = some r := H
        have A6 := Aside0.mk A60
        clear A60
        obtain ⟨ji7, hji7⟩ : ∃ j_ : Int, (wrap64 ((l0.length : Int) + t128)) = j_ := ⟨_, rfl⟩
        replace H : (if 0 ≤ (ji7) then (if (ji7 : Int).toNat ≤ 35184372088832 then (full_toInt64S.l0 kj2 l0 (List.replicate (ji7 : Int).toNat 0) 0) else (none)) else (none)) = some r := by first | (rw [hji7] at H; exact H) | (simp only [hji7] at H ⊢; exact H)
        (try rw [hji7] at A6)
        have hji7w : (IntKind.i64.wrap ((l0.length : Int) + t128)) = ji7 := (i64_w _).trans hji7
        by_cases c8 : 0 ≤ (ji7)
        · rw [if_pos c8] at H
          have c8b0 := eq_true c8
          have c8b1 : decide (0 ≤ (ji7)) = true := decide_eq_true c8
          clear c8
          by_cases c9 : (ji7 : Int).toNat ≤ 35184372088832
          · rw [if_pos c9] at H
            have c9b0 := eq_true c9
            have c9b1 : decide ((ji7 : Int).toNat ≤ 35184372088832) = true := decide_eq_true c9
            clear c9
            obtain ⟨y129, hy129⟩ : ∃ y_ : List Int, y_ = (List.replicate (ji7 : Int).toNat 0) := ⟨_, rfl⟩
            replace H : (full_toInt64S.l0 kj2 l0 y129 0) = some r := by first | (rw [hy129]; with_reducible exact H) | (have H2_ := (Option.bind_some _ _).symm.trans H; rw [hy129]; with_reducible exact H2_) | (have H2_ := (Option.bind_some _ _).symm.trans H; with_reducible exact H2_) | with_reducible exact H | (rw [hy129]; exact H) | exact H
            have Ny129 := Aside0.mk hy129
            clear hy129
            have H' := Aside0.mk H
            clear H
            go_wp2_with (first | ((with_reducible refine gate_callee (f := 91) rfl ?_); refine goesL_ (some 18) rfl rfl Try.func91 (by kernel_rfl) rfl #[.int .i64 (l0.length : Int)] rfl (by (try simp only [List.map_toArray, List.map_cons, List.map_nil]); first | done | rfl | (simp only [List.length_drop, List.length_take]; rfl)) ?_; (with_reducible refine (laws_roomBehind.calls (l0.length : Int) t128 _ A6.out).mono ?_); rintro e w' ⟨rfl, ⟨nd, rfl⟩⟩; refine ⟨_, rfl, ?_⟩) | ((with_reducible refine gate_dst (N := 20) rfl ?_); (try (refine gate_guard (by rfl) ?_; dsimp only)); refine Kd.R_make (Kd.int .i64) _ 2 rfl (N := 20) rfl 30 _ _ rfl ji7 rfl rfl Try.underlying30 (.int .i64 0) 8 info2 rfl (by decide) (by omega) 0 (ok := fun _ => True) (okp := fun _ => True) rfl (fun _ hk => hk) trivial (of_decide_eq_true (by first | (with_reducible assumption) | assumption)) (Nat.le_trans (Nat.mul_le_mul_right _ (of_decide_eq_true (by first | (with_reducible assumption) | assumption) : ji7.toNat ≤ 35184372088832)) (by omega)) (Below.refl _ _) (Nat.le_refl _) ?_; intro v130 w10 ho11 hb hg_ hnew_; clear hg_ hnew_; (first | rw [← Ny129.out] at ho11 | (simp only [Int.reduceToNat] at ho11; rw [← Ny129.out] at ho11)); have n0_ := Aside0.mk (Kd.R_lower ho11 (below_size (by repeat (first | (with_reducible first | exact HB.out | apply below_alloc | apply pw_below_drewN | apply below_drew1) | exact HB.out)))); have n1_ := Aside0.mk (below_step (by repeat (first | (with_reducible first | exact HB.out | apply below_alloc | apply pw_below_drewN | apply below_drew1) | exact HB.out)) hb); clear HB; have HO131 := n0_; have HB := n1_; clear n0_ n1_; clear hb ho11))
            go_loopg [6] kj2 (fun kq v6 w' => ∃ (x5_2 : List Int) (x6_2 : Int), v6 = .int .i64 x6_2 ∧ Aside0 (full_toInt64S.l0 kq l0 x5_2 x6_2 = some r) ∧ Aside0 (kq ≤ kj2) ∧ Aside0 (Kd.R (Kd.int .i64) 2 w' w.heap.size (fun _ => True) v130 x5_2) ∧ Aside0 (Below w.heap.size w w'))
            case atStart => exact ⟨(y129), (0), (by first | rfl | (simp; done) | (simp [*]; done)), H', ⟨Nat.le_refl _⟩, ⟨by (with_reducible repeat (first | apply Kd.R_alloc | apply Kd.R_drewN | apply Kd.R_drew)); exact HO131.out⟩, ⟨by repeat (first | (with_reducible first | exact HB.out | apply below_alloc | apply pw_below_drewN | apply below_drew1) | exact HB.out)⟩⟩
            case round =>
              clear H'
              try clear c1
              try clear p2
              try clear c4
              try clear c5
              try clear p6
              try clear c8
              try clear c8b0
              try clear c8b1
              try clear c9
              try clear c9b0
              try clear c9b1
              try clear p2
              obtain ⟨x5_2, x6_2, rfl, HA, HK2, HO_5, HB⟩ := hrel
              cases gk with
              | zero => exact absurd HA.out (by simp [full_toInt64S.l0])
              | succ k2 =>
                have H := HA.out
                clear HA
                simp only [full_toInt64S.l0] at H
                by_cases c12 : x6_2 < (l0.length : Int)
                · rw [if_pos c12] at H
                  have c12b0 : decide (x6_2 < (l0.length : Int)) = true := decide_eq_true c12
                  clear c12
                  by_cases c13 : 0 ≤ x6_2
                  · rw [if_pos c13] at H
                    have c13b0 : decide (0 ≤ x6_2) = true := decide_eq_true c13
                    clear c13
                    by_cases c14 : x6_2 < (x5_2.length : Int)
                    · rw [if_pos c14] at H
                      have c14b0 : decide (x6_2 < (x5_2.length : Int)) = true := decide_eq_true c14
                      clear c14
                      obtain ⟨y133, hy133⟩ : ∃ y_ : List Int, y_ = (x5_2.set (x6_2 : Int).toNat (rd l0 x6_2)) := ⟨_, rfl⟩
                      replace H : (full_toInt64S.l0 k2 l0 y133 (wrap64 (x6_2 + 1))) = some r := by first | (rw [hy133]; with_reducible exact H) | (have H2_ := (Option.bind_some _ _).symm.trans H; rw [hy133]; with_reducible exact H2_) | (have H2_ := (Option.bind_some _ _).symm.trans H; with_reducible exact H2_) | with_reducible exact H | (rw [hy133]; exact H) | exact H
                      have Ny133 := Aside0.mk hy133
                      clear hy133
                      have H' := Aside0.mk H
                      clear H
                      have p132 : 0 ≤ (x6_2 : Int) := of_decide_eq_true (by first | (with_reducible assumption) | assumption)
                      have q132 : x6_2 < (l0.length : Int) := of_decide_eq_true (by first | (with_reducible assumption) | assumption)
                      obtain ⟨ad132, e132, hx132_0⟩ := Kd.at_int HR0.out x6_2 p132 q132
                      cases e132
                      replace hx132_0 := (HB.out.cell (World.block_lt_of_cell? w _ hx132_0)).trans hx132_0
                      replace p132 := eq_true p132
                      replace q132 := eq_true q132
                      have p15 : 0 ≤ (x6_2 : Int) := of_decide_eq_true (by first | (with_reducible assumption) | assumption)
                      have q15 : (x6_2 : Int) < ((x5_2.length : Int) : Int) := of_decide_eq_true (by first | (with_reducible assumption) | assumption)
                      obtain ⟨go15, co15, eo15, gb15, gl15, cl15, HG15⟩ := Kd.R_form HO_5.out (by omega)
                      (first | cases eo15 | (injection eo15 with ea_ en_ ec_; (first | subst ea_ | (injection ea_ with ea_; subst ea_)); subst ec_; clear en_))
                      have GB15 := Aside0.mk gb15
                      have GG15 := Aside0.mk HG15
                      clear gb15 gl15 HG15
                      obtain ⟨hx15_0, hf15_0⟩ := Kd.R_celln 0 HO_5.out (x6_2 : Int) p15 q15
                      replace p15 := eq_true p15
                      replace q15 := eq_true q15
                      have HP16 := Kd.R_putg HO_5.out (x6_2 : Int) (rd l0 x6_2)
                      go_wp2_with (first | ((with_reducible refine gate_store (t := 2) (p := 33) rfl ?_); refine store_event (t := 2) (p := 33) (v := ?vo_w17) (w1 := (wr.setCell ⟨go15, (x6_2 : Int).toNat, none⟩ (.int .i64 (rd l0 x6_2)))) ?hg ?ho ?hn ?hr ?_; (case ho => rfl); (case hg => rfl); (case hn => rfl); (case hr => first | (go_simp; done) | (go_simp; rfl)); intro w17 hw; have hg : wr.grownBy w17 (some go15) := (by rw [hw]; exact HP16.2); have hp_ : Kd.R (Kd.int .i64) 2 w17 w.heap.size (fun _ => True) (.slice (some ⟨go15, 0, none⟩) x5_2.length co15) y133 := (by rw [hw, Ny133.out]; exact HP16.1); clear HP16; have n0_ := Aside0.mk (hp_); have n1_ := Aside0.mk ((by rw [hw]; exact below_set (HB.out) GB15.out : Below w.heap.size w w17)); clear HO_5; clear HB; have HO_5 := n0_; have HB := n1_; clear n0_ n1_; clear hg hw hp_))
                      go_roundg k2
                      case measure => have := HJ2.out; have := HK2.out; omega
                      case rel => exact ⟨(y133), (wrap64 (x6_2 + 1)), (by first | rfl | (simp; done) | (simp [*]; done)), H', ⟨by have := HJ2.out; have := HK2.out; omega⟩, ⟨by (with_reducible repeat (first | apply Kd.R_alloc | apply Kd.R_drewN | apply Kd.R_drew)); exact HO_5.out⟩, ⟨by repeat (first | (with_reducible first | exact HB.out | apply below_alloc | apply pw_below_drewN | apply below_drew1) | exact HB.out)⟩⟩
                    · rw [if_neg c14] at H
                      exact absurd H (by simp)
                  · rw [if_neg c13] at H
                    exact absurd H (by simp)
                · rw [if_neg c12] at H
                  have c12b0 : decide (x6_2 < (l0.length : Int)) = false := decide_eq_false c12
                  clear c12
                  have H' := Aside0.mk H
                  clear H
                  go_wp2
                  go_loopg [7] k2 (fun kq v7 w' => ∃ (x5_3 : List Int) (x7_3 : Int), v7 = .int .i64 x7_3 ∧ Aside0 (full_toInt64S.l1 kq l0 x5_3 x7_3 = some r) ∧ Aside0 (kq ≤ k2) ∧ Aside0 (Kd.R (Kd.int .i64) 2 w' w.heap.size (fun _ => True) v130 x5_3) ∧ Aside0 (Below w.heap.size w w'))
                  case atStart => exact ⟨(x5_2), ((l0.length : Int)), (by first | rfl | (simp; done) | (simp [*]; done)), H', ⟨Nat.le_refl _⟩, ⟨by (with_reducible repeat (first | apply Kd.R_alloc | apply Kd.R_drewN | apply Kd.R_drew)); exact HO_5.out⟩, ⟨by repeat (first | (with_reducible first | exact HB.out | apply below_alloc | apply pw_below_drewN | apply below_drew1) | exact HB.out)⟩⟩
                  case round =>
                    clear H'
                    try clear c1
                    try clear p1
                    try clear q1
                    try clear hx1
                    try clear p2
                    try clear c4
                    try clear c5
                    try clear p6
                    try clear c8
                    try clear c8b0
                    try clear c8b1
                    try clear c9
                    try clear c9b0
                    try clear c9b1
                    try clear c12
                    try clear c12b0
                    try clear c13
                    try clear c13b0
                    try clear p13
                    try clear q13
                    try clear hx13
                    try clear c14
                    try clear c14b0
                    try clear p15
                    try clear q15
                    try clear hx15
                    try clear hf15
                    try clear hx132_0
                    try clear hx15_0
                    try clear p132
                    try clear p15
                    try clear p2
                    try clear p6
                    try clear q132
                    try clear q15
                    obtain ⟨x5_3, x7_3, rfl, HA, HK3, HO_5, HB⟩ := hrel
                    cases gk with
                    | zero => exact absurd HA.out (by simp [full_toInt64S.l1])
                    | succ k3 =>
                      have H := HA.out
                      clear HA
                      simp only [full_toInt64S.l1] at H
                      by_cases c18 : x7_3 < (x5_3.length : Int)
                      · rw [if_pos c18] at H
                        have c18b0 : decide (x7_3 < (x5_3.length : Int)) = true := decide_eq_true c18
                        clear c18
                        by_cases c19 : 0 ≤ x7_3
                        · rw [if_pos c19] at H
                          have c19b0 : decide (0 ≤ x7_3) = true := decide_eq_true c19
                          clear c19
                          obtain ⟨y134, hy134⟩ : ∃ y_ : List Int, y_ = (x5_3.set (x7_3 : Int).toNat (-7000000000000000101)) := ⟨_, rfl⟩
                          replace H : (full_toInt64S.l1 k3 l0 y134 (wrap64 (x7_3 + 1))) = some r := by first | (rw [hy134]; with_reducible exact H) | (have H2_ := (Option.bind_some _ _).symm.trans H; rw [hy134]; with_reducible exact H2_) | (have H2_ := (Option.bind_some _ _).symm.trans H; with_reducible exact H2_) | with_reducible exact H | (rw [hy134]; exact H) | exact H
                          have Ny134 := Aside0.mk hy134
                          clear hy134
                          have H' := Aside0.mk H
                          clear H
                          obtain ⟨Ao21, co21, eo21⟩ := Kd.R_slice HO_5.out
                          subst eo21
                          have p20 : 0 ≤ (x7_3 : Int) := of_decide_eq_true (by first | (with_reducible assumption) | assumption)
                          have q20 : (x7_3 : Int) < ((x5_3.length : Int) : Int) := of_decide_eq_true (by first | (with_reducible assumption) | assumption)
                          obtain ⟨go20, co20, eo20, gb20, gl20, cl20, HG20⟩ := Kd.R_form HO_5.out (by omega)
                          (first | cases eo20 | (injection eo20 with ea_ en_ ec_; (first | subst ea_ | (injection ea_ with ea_; subst ea_)); subst ec_; clear en_))
                          have GB20 := Aside0.mk gb20
                          have GG20 := Aside0.mk HG20
                          clear gb20 gl20 HG20
                          obtain ⟨hx20_0, hf20_0⟩ := Kd.R_celln 0 HO_5.out (x7_3 : Int) p20 q20
                          replace p20 := eq_true p20
                          replace q20 := eq_true q20
                          have HP22 := Kd.R_putg HO_5.out (x7_3 : Int) (-7000000000000000101)
                          go_wp2_with (first | ((with_reducible refine gate_store (t := 2) (p := 44) rfl ?_); refine store_event (t := 2) (p := 44) (v := ?vo_w23) (w1 := (wr.setCell ⟨go20, (x7_3 : Int).toNat, none⟩ (.int .i64 (-7000000000000000101)))) ?hg ?ho ?hn ?hr ?_; (case ho => rfl); (case hg => rfl); (case hn => rfl); (case hr => first | (go_simp; done) | (go_simp; rfl)); intro w23 hw; have hg : wr.grownBy w23 (some go20) := (by rw [hw]; exact HP22.2); have hp_ : Kd.R (Kd.int .i64) 2 w23 w.heap.size (fun _ => True) (.slice (some ⟨go20, 0, none⟩) x5_3.length co21) y134 := (by rw [hw, Ny134.out]; exact HP22.1); clear HP22; have n0_ := Aside0.mk (hp_); have n1_ := Aside0.mk ((by rw [hw]; exact below_set (HB.out) GB20.out : Below w.heap.size w w23)); clear HO_5; clear HB; have HO_5 := n0_; have HB := n1_; clear n0_ n1_; clear hg hw hp_))
                          go_roundg k3
                          case measure => have := HJ2.out; have := HK2.out; have := HK3.out; omega
                          case rel => exact ⟨(y134), (wrap64 (x7_3 + 1)), (by first | rfl | (simp; done) | (simp [*]; done)), H', ⟨by have := HJ2.out; have := HK2.out; have := HK3.out; omega⟩, ⟨by (with_reducible repeat (first | apply Kd.R_alloc | apply Kd.R_drewN | apply Kd.R_drew)); exact HO_5.out⟩, ⟨by repeat (first | (with_reducible first | exact HB.out | apply below_alloc | apply pw_below_drewN | apply below_drew1) | exact HB.out)⟩⟩
                        · rw [if_neg c19] at H
                          exact absurd H (by simp)
                      · rw [if_neg c18] at H
                        have c18b0 : decide (x7_3 < (x5_3.length : Int)) = false := decide_eq_false c18
                        clear c18
                        by_cases c24 : 0 ≤ (l0.length : Int)
                        · rw [if_pos c24] at H
                          have c24b0 := eq_true c24
                          have c24b1 : decide (0 ≤ (l0.length : Int)) = true := decide_eq_true c24
                          clear c24
                          by_cases c25 : (l0.length : Int) ≤ (x5_3.length : Int)
                          · rw [if_pos c25] at H
                            have c25b0 := eq_true c25
                            have c25b1 : decide ((l0.length : Int) ≤ (x5_3.length : Int)) = true := decide_eq_true c25
                            clear c25
                            obtain ⟨y135, hy135⟩ : ∃ y_ : List Int, y_ = (x5_3.take ((l0.length : Int) : Int).toNat) := ⟨_, rfl⟩
                            have Ny135 := Aside0.mk hy135
                            clear hy135
                            obtain rfl := Option.some.inj H
                            obtain ⟨Ao26, co26, eo26⟩ := Kd.R_slice HO_5.out
                            subst eo26
                            have HFC := Aside0.mk (Kd.R_reads' HO_5.out)
                            have q27 : ((l0.length : Int) : Int) ≤ ((x5_3.length : Int) : Int) := of_decide_eq_true (by first | (with_reducible assumption) | assumption)
                            obtain ⟨i027, hi027, _, hsz27, _⟩ := info_parts info2
                            have hcut27 := cut_to (P := Try.prog) 30 2 .i64 Try.underlying30 hi027 Ao26 x5_3.length co26 (l0.length : Int) (of_decide_eq_true (by first | (with_reducible assumption) | assumption)) q27 (Kd.R_reads' HO_5.out).2.1
                            have hr27 := Kd.R_take (m := ((l0.length : Int) : Int).toNat) HO_5.out (by omega)
                            have hy27 : y135.length = ((l0.length : Int) : Int).toNat := (by rw [Ny135.out, List.length_take]; omega)
                            rw [← Ny135.out] at hr27
                            rw [← hy27] at hr27 hcut27
                            clear hy27 hi027 hsz27 HO_5
                            have HO137 := Aside0.mk hr27
                            clear hr27
                            replace q27 := eq_true q27
                            go_wp2
                            go_ret
                            exact ⟨Ao26, co26, y135, by rw [Ny135.out]; simp, by first | rfl | (simp; done) | (simp [*]; done), (by (with_reducible repeat (first | apply Kd.R_alloc | apply Kd.R_drewN | apply Kd.R_drew)); exact HO137.out), (by (with_reducible repeat (first | apply Sp.alloc | apply Sp.drewN | apply Sp.drew)); exact ⟨HFC.out.2.2, HFC.out.2.1⟩), by repeat (first | (with_reducible first | exact HB.out | apply below_alloc | apply pw_below_drewN | apply below_drew1) | exact HB.out)⟩
                          · rw [if_neg c25] at H
                            exact absurd H (by simp)
                        · rw [if_neg c24] at H
                          exact absurd H (by simp)
          · rw [if_neg c9] at H
            exact absurd H (by simp)
        · rw [if_neg c8] at H
          exact absurd H (by simp)


/-! same_intactInt64S: two slices with one content, behind the length too (turned out of the printed walk by a program of this session) -/
set_option maxHeartbeats 8000000 in
set_option maxRecDepth 100000 in
theorem same_intactInt64S.calls (k : Nat) (A0 : Option Addr) (c0 : Nat) (A1 : Option Addr) (c1 : Nat) (n : Nat) (f : List Int) (t : Int) (w : World) (hr0 : Kd.C (Kd.int .i64) w A0 f.length f) (hc0 : f.length ≤ c0) (hr1 : Kd.C (Kd.int .i64) w A1 f.length f) (hc1 : f.length ≤ c1)
    (hroom : laws_roomBehind.f (n : Int) = some t) (hn : wrap64 ((n : Int) + t) = (f.length : Int)) (heq : laws_eqInt64S.f k f f = some true) :
    Calls Try.prog 135 #[.slice A0 n c0, .slice A1 n c1] w fun e w' => e = .returned (.bool true) ∧ Below w.heap.size w w' := by
  suffices hq : Calls Try.prog 135 #[.slice A0 n c0, .slice A1 n c1] w fun e w' => e = .returned (.bool true) ∧ Drawn0 w w' from hq.mono fun e w' h => ⟨h.1, h.2.below⟩
  have HR0 := Aside0.mk hr0
  have HC0 := Aside0.mk hc0
  have HR1 := Aside0.mk hr1
  have HC1 := Aside0.mk hc1
  have A3 := Aside0.mk hroom
  have AE := Aside0.mk heq
  clear hroom heq
  obtain ⟨ji5, hji5⟩ : ∃ j_ : Int, (wrap64 ((n : Int) + t)) = j_ := ⟨_, rfl⟩
  have hji5w : (IntKind.i64.wrap ((n : Int) + t)) = ji5 := (i64_w _).trans hji5
  have hjf : ji5 = (f.length : Int) := hji5.symm.trans hn
  have c6b1 : decide (0 ≤ (ji5)) = true := decide_eq_true (by omega)
  obtain ⟨i012, hi012, _, hsz12, _⟩ := info_parts info2
  have hcut12 := cut_cap (P := Try.prog) 30 2 .i64 Try.underlying30 hi012 A0 n c0 ji5 (by omega) (by omega)
  have hcut13 := cut_cap (P := Try.prog) 30 2 .i64 Try.underlying30 hi012 A1 n c1 ji5 (by omega) (by omega)
  have hjt : ji5.toNat = f.length := by omega
  rw [hjt] at hcut12 hcut13
  clear hr0 hc0 hr1 hc1 hn hjf hjt hi012 hsz12 hji5
  go_enter Try.func135, Try.ntmps135
  go_wp2_with (first | (go_at_call 91; (with_reducible refine (laws_roomBehind.calls (n : Int) t _ A3.out).mono ?_); rintro e w' ⟨rfl, ⟨nd, rfl⟩⟩; (try first | exact ⟨rfl, _, World.drewN_drewN _ _ _⟩ | exact ⟨rfl, _, Eq.trans (World.drewN_drewN _ _ _) (congrArg (World.drewN _) (Nat.add_assoc _ _ _))⟩)) | (go_at_call 22; (with_reducible refine (laws_eqInt64S.calls k _ _ f _ _ f true _ ?side1 ?side2 ?side3 ?side4 AE.out).mono ?_); (case side1 => repeat (first | exact HR0.out | (with_reducible refine Kd.C_alloc ?_ _) | (with_reducible refine Kd.C_drewN ?_ _) | (with_reducible refine Kd.C_drew ?_))); (case side2 => exact HC0.out); (case side3 => repeat (first | exact HR1.out | (with_reducible refine Kd.C_alloc ?_ _) | (with_reducible refine Kd.C_drewN ?_ _) | (with_reducible refine Kd.C_drew ?_))); (case side4 => exact HC1.out); rintro e w' ⟨rfl, ⟨nd, rfl⟩⟩; (try first | exact ⟨rfl, _, World.drewN_drewN _ _ _⟩ | exact ⟨rfl, _, Eq.trans (World.drewN_drewN _ _ _) (congrArg (World.drewN _) (Nat.add_assoc _ _ _))⟩)))
  repeat (go_quiet (first | (go_at_call 91; (with_reducible refine (laws_roomBehind.calls (n : Int) t _ A3.out).mono ?_); rintro e w' ⟨rfl, ⟨nd, rfl⟩⟩; (try first | exact ⟨rfl, _, World.drewN_drewN _ _ _⟩ | exact ⟨rfl, _, Eq.trans (World.drewN_drewN _ _ _) (congrArg (World.drewN _) (Nat.add_assoc _ _ _))⟩)) | (go_at_call 22; (with_reducible refine (laws_eqInt64S.calls k _ _ f _ _ f true _ ?side1 ?side2 ?side3 ?side4 AE.out).mono ?_); (case side1 => repeat (first | exact HR0.out | (with_reducible refine Kd.C_alloc ?_ _) | (with_reducible refine Kd.C_drewN ?_ _) | (with_reducible refine Kd.C_drew ?_))); (case side2 => exact HC0.out); (case side3 => repeat (first | exact HR1.out | (with_reducible refine Kd.C_alloc ?_ _) | (with_reducible refine Kd.C_drewN ?_ _) | (with_reducible refine Kd.C_drew ?_))); (case side4 => exact HC1.out); rintro e w' ⟨rfl, ⟨nd, rfl⟩⟩; (try first | exact ⟨rfl, _, World.drewN_drewN _ _ _⟩ | exact ⟨rfl, _, Eq.trans (World.drewN_drewN _ _ _) (congrArg (World.drewN _) (Nat.add_assoc _ _ _))⟩))); try go_wp2_with (first | (go_at_call 91; (with_reducible refine (laws_roomBehind.calls (n : Int) t _ A3.out).mono ?_); rintro e w' ⟨rfl, ⟨nd, rfl⟩⟩; (try first | exact ⟨rfl, _, World.drewN_drewN _ _ _⟩ | exact ⟨rfl, _, Eq.trans (World.drewN_drewN _ _ _) (congrArg (World.drewN _) (Nat.add_assoc _ _ _))⟩)) | (go_at_call 22; (with_reducible refine (laws_eqInt64S.calls k _ _ f _ _ f true _ ?side1 ?side2 ?side3 ?side4 AE.out).mono ?_); (case side1 => repeat (first | exact HR0.out | (with_reducible refine Kd.C_alloc ?_ _) | (with_reducible refine Kd.C_drewN ?_ _) | (with_reducible refine Kd.C_drew ?_))); (case side2 => exact HC0.out); (case side3 => repeat (first | exact HR1.out | (with_reducible refine Kd.C_alloc ?_ _) | (with_reducible refine Kd.C_drewN ?_ _) | (with_reducible refine Kd.C_drew ?_))); (case side4 => exact HC1.out); rintro e w' ⟨rfl, ⟨nd, rfl⟩⟩; (try first | exact ⟨rfl, _, World.drewN_drewN _ _ _⟩ | exact ⟨rfl, _, Eq.trans (World.drewN_drewN _ _ _) (congrArg (World.drewN _) (Nat.add_assoc _ _ _))⟩))))
  go_ret
  exact ⟨by first | rfl | (simp; done) | (simp only [← hji5] <;> (first | rfl | simp)) | (simp [*]; done), by repeat (first | exact Drawn0.refl _ | apply Drawn0.step)⟩


def room (n : Nat) : Nat := if n % 6 = 5 then 0 else if n % 3 = 0 then 1 else n
theorem room_le (n : Nat) : room n ≤ n + 1 := by unfold room; split <;> (try split) <;> omega
theorem room_eq (n : Nat) : laws_roomBehind.f (n : Int) = some ((room n : Nat) : Int) := by
  unfold laws_roomBehind.f room
  rw [Int.tmod_eq_emod_of_nonneg (by omega), Int.tmod_eq_emod_of_nonneg (by omega)]
  by_cases h : n % 6 = 5
  · rw [if_pos (by omega), if_pos h]; rfl
  · rw [if_neg (by omega), if_neg h]
    by_cases h2 : n % 3 = 0
    · rw [if_pos (by omega), if_pos h2]; rfl
    · rw [if_neg (by omega), if_neg h2]
theorem set_mid {α : Type} (p : List α) (b v : α) (s : List α) : (p ++ b :: s).set ((p.length : Int)).toNat v = p ++ v :: s := by
  rw [Int.toNat_natCast, List.set_append_right _ _ (Nat.le_refl _)]
  simp
theorem getD_mid {α : Type} (z : α) (p : List α) (b : α) (s : List α) : (p ++ b :: s).getD ((p.length : Int)).toNat z = b := by
  rw [Int.toNat_natCast, List.getD_eq_getElem?_getD, List.getElem?_append_right (Nat.le_refl _)]
  simp


theorem full_toInt64S_l1 (l : List Int) : ∀ (j k : Nat) (pre : List Int), l.length ≤ pre.length → pre.length + j ≤ 4000000 → j < k → full_toInt64S.l1 k l (pre ++ List.replicate j 0) (pre.length : Int) = some (pre ++ List.replicate j (-7000000000000000101))
  | 0, k, pre, h1, h2, hk => by
    obtain ⟨k, rfl⟩ : ∃ m, k = m + 1 := ⟨k - 1, by omega⟩
    simp only [full_toInt64S.l1, List.replicate_zero, List.append_nil]
    rw [if_neg (by omega), if_pos (by omega), if_pos (by omega)]
  | j + 1, k, pre, h1, h2, hk => by
    obtain ⟨k, rfl⟩ : ∃ m, k = m + 1 := ⟨k - 1, by omega⟩
    have ih := full_toInt64S_l1 l j k (pre ++ [(-7000000000000000101)]) (by simp; omega) (by simp; omega) (by omega)
    simp only [full_toInt64S.l1]
    rw [if_pos (by simp; omega)]
    rw [if_pos (by omega), w64 (by omega), List.replicate_succ, set_mid]
    have e1 : pre ++ (-7000000000000000101) :: List.replicate j 0 = (pre ++ [(-7000000000000000101)]) ++ List.replicate j 0 := by simp
    have e2 : (pre.length : Int) + 1 = ((pre ++ [(-7000000000000000101)]).length : Int) := by simp
    rw [e1, e2, ih]
    simp [List.replicate_succ]
theorem full_toInt64S_l0 (l : List Int) (R : Nat) (hl : l.length ≤ 1000000) (hR : R ≤ 1000001) : ∀ (s p : List Int) (k : Nat), l = p ++ s → s.length + R + 2 ≤ k → full_toInt64S.l0 k l (p ++ List.replicate (s.length + R) 0) (p.length : Int) = some (l ++ List.replicate R (-7000000000000000101))
  | [], p, k, h, hk => by
    obtain ⟨k, rfl⟩ : ∃ m, k = m + 1 := ⟨k - 1, by omega⟩
    have hp : l = p := by simpa using h
    subst hp
    simp only [full_toInt64S.l0]
    rw [if_neg (by omega)]
    have := full_toInt64S_l1 l R k l (by simp) (by (try simp only [List.length_map]); omega) (by simp at hk; omega)
    simpa using this
  | a :: s, p, k, h, hk => by
    obtain ⟨k, rfl⟩ : ∃ m, k = m + 1 := ⟨k - 1, by omega⟩
    have hlen : l.length = p.length + (s.length + 1) := by rw [h]; simp
    have hget : rd l (p.length : Int) = a := by rw [h]; exact getD_mid _ p a s
    have ih := full_toInt64S_l0 l R hl hR s (p ++ [a]) k (by rw [h]; simp) (by simp at hk ⊢; omega)
    simp only [full_toInt64S.l0]
    rw [if_pos (by omega), if_pos (by omega), hget]
    rw [if_pos (by simp; omega), w64 (by omega)]
    have e0 : (a :: s).length + R = (s.length + R) + 1 := by simp; omega
    have e1 : (p ++ List.replicate ((a :: s).length + R) 0).set ((p.length : Int)).toNat a = (p ++ [a]) ++ List.replicate (s.length + R) 0 := by
      rw [e0, List.replicate_succ]
      have := set_mid p 0 a (List.replicate (s.length + R) 0)
      (try simp only [List.length_map] at this)
      rw [this]
      simp
    have e2 : (p.length : Int) + 1 = ((p ++ [a]).length : Int) := by simp
    rw [e1, e2, ih]
theorem full_toInt64S_eq (l : List Int) (b : Bool) (hb : b = false ∨ l ≠ []) (hl : l.length ≤ 1000000) (k : Nat) (hk : 2 * l.length + 10 ≤ k) : full_toInt64S.f k l b = some (l ++ List.replicate (room l.length) (-7000000000000000101)) := by
  obtain ⟨k, rfl⟩ : ∃ m, k = m + 1 := ⟨k - 1, by omega⟩
  have hr := room_le l.length
  have e : full_toInt64S.f (k + 1) l b = full_toInt64S.j0 (k + 1) l false := by
    unfold full_toInt64S.f
    cases b with
    | false => rfl
    | true =>
      have hn : l ≠ [] := by simpa using hb
      have : ((l.length : Int) == 0) = false := by
        cases l with
        | nil => exact absurd rfl hn
        | cons a s => simp; omega
      rw [if_pos rfl, this]
  rw [e]
  simp only [full_toInt64S.j0]
  rw [if_neg (by decide), room_eq, Option.bind_some, w64 (by omega), if_pos (by omega), if_pos (by omega)]
  have := full_toInt64S_l0 l (room l.length) hl (by omega) l [] k (by simp) (by omega)
  have e3 : ((l.length : Int) + (room l.length : Int)).toNat = l.length + room l.length := by omega
  rw [e3]
  simpa using this


theorem laws_toInt64S_l1 (l : List Int) : ∀ (j k : Nat) (pre : List Int), l.length ≤ pre.length → pre.length + j ≤ 4000000 → j < k → laws_toInt64S.l1 k l (pre ++ List.replicate j 0) (pre.length : Int) = some ((pre ++ List.replicate j (-7000000000000000101)).take l.length)
  | 0, k, pre, h1, h2, hk => by
    obtain ⟨k, rfl⟩ : ∃ m, k = m + 1 := ⟨k - 1, by omega⟩
    simp only [laws_toInt64S.l1, List.replicate_zero, List.append_nil]
    rw [if_neg (by omega), if_pos (by omega), if_pos (by omega)]
    rw [Int.toNat_natCast]
  | j + 1, k, pre, h1, h2, hk => by
    obtain ⟨k, rfl⟩ : ∃ m, k = m + 1 := ⟨k - 1, by omega⟩
    have ih := laws_toInt64S_l1 l j k (pre ++ [(-7000000000000000101)]) (by simp; omega) (by simp; omega) (by omega)
    simp only [laws_toInt64S.l1]
    rw [if_pos (by simp; omega)]
    rw [if_pos (by omega), w64 (by omega), List.replicate_succ, set_mid]
    have e1 : pre ++ (-7000000000000000101) :: List.replicate j 0 = (pre ++ [(-7000000000000000101)]) ++ List.replicate j 0 := by simp
    have e2 : (pre.length : Int) + 1 = ((pre ++ [(-7000000000000000101)]).length : Int) := by simp
    rw [e1, e2, ih]
    simp [List.replicate_succ]
theorem laws_toInt64S_l0 (l : List Int) (R : Nat) (hl : l.length ≤ 1000000) (hR : R ≤ 1000001) : ∀ (s p : List Int) (k : Nat), l = p ++ s → s.length + R + 2 ≤ k → laws_toInt64S.l0 k l (p ++ List.replicate (s.length + R) 0) (p.length : Int) = some ((l ++ List.replicate R (-7000000000000000101)).take l.length)
  | [], p, k, h, hk => by
    obtain ⟨k, rfl⟩ : ∃ m, k = m + 1 := ⟨k - 1, by omega⟩
    have hp : l = p := by simpa using h
    subst hp
    simp only [laws_toInt64S.l0]
    rw [if_neg (by omega)]
    have := laws_toInt64S_l1 l R k l (by simp) (by (try simp only [List.length_map]); omega) (by simp at hk; omega)
    simpa using this
  | a :: s, p, k, h, hk => by
    obtain ⟨k, rfl⟩ : ∃ m, k = m + 1 := ⟨k - 1, by omega⟩
    have hlen : l.length = p.length + (s.length + 1) := by rw [h]; simp
    have hget : rd l (p.length : Int) = a := by rw [h]; exact getD_mid _ p a s
    have ih := laws_toInt64S_l0 l R hl hR s (p ++ [a]) k (by rw [h]; simp) (by simp at hk ⊢; omega)
    simp only [laws_toInt64S.l0]
    rw [if_pos (by omega), if_pos (by omega), hget]
    rw [if_pos (by simp; omega), w64 (by omega)]
    have e0 : (a :: s).length + R = (s.length + R) + 1 := by simp; omega
    have e1 : (p ++ List.replicate ((a :: s).length + R) 0).set ((p.length : Int)).toNat a = (p ++ [a]) ++ List.replicate (s.length + R) 0 := by
      rw [e0, List.replicate_succ]
      have := set_mid p 0 a (List.replicate (s.length + R) 0)
      (try simp only [List.length_map] at this)
      rw [this]
      simp
    have e2 : (p.length : Int) + 1 = ((p ++ [a]).length : Int) := by simp
    rw [e1, e2, ih]
theorem laws_toInt64S_eq (l : List Int) (b : Bool) (hb : b = false ∨ l ≠ []) (hl : l.length ≤ 1000000) (k : Nat) (hk : 2 * l.length + 10 ≤ k) : laws_toInt64S.f k l b = some ((l ++ List.replicate (room l.length) (-7000000000000000101)).take l.length) := by
  obtain ⟨k, rfl⟩ : ∃ m, k = m + 1 := ⟨k - 1, by omega⟩
  have hr := room_le l.length
  have e : laws_toInt64S.f (k + 1) l b = laws_toInt64S.j0 (k + 1) l false := by
    unfold laws_toInt64S.f
    cases b with
    | false => rfl
    | true =>
      have hn : l ≠ [] := by simpa using hb
      have : ((l.length : Int) == 0) = false := by
        cases l with
        | nil => exact absurd rfl hn
        | cons a s => simp; omega
      rw [if_pos rfl, this]
  rw [e]
  simp only [laws_toInt64S.j0]
  rw [if_neg (by decide), room_eq, Option.bind_some, w64 (by omega), if_pos (by omega), if_pos (by omega)]
  have := laws_toInt64S_l0 l (room l.length) hl (by omega) l [] k (by simp) (by omega)
  have e3 : ((l.length : Int) + (room l.length : Int)).toNat = l.length + room l.length := by omega
  rw [e3]
  simpa using this


theorem laws_toInt64S_bare (l : List Int) (hl : l.length ≤ 1000000) (k : Nat) (hk : 2 * l.length + 10 ≤ k) : laws_toInt64S.f k l true = some l := by
  cases l with
  | nil =>
    obtain ⟨k, rfl⟩ : ∃ m, k = m + 1 := ⟨k - 1, by omega⟩
    simp [laws_toInt64S.f, laws_toInt64S.j0]
  | cons a s =>
    rw [laws_toInt64S_eq (a :: s) true (.inr (by simp)) hl k hk]
    congr 1
    rw [List.take_append_of_le_length (by simp), List.take_of_length_le (by simp)]


theorem laws_eqInt64S_l0 (l : List Int) (hl : l.length ≤ 1000000000) : ∀ (d k : Nat) (i : Int), 0 ≤ i → i + d = l.length → d < k → laws_eqInt64S.l0 k l l i = some true
  | 0, k, i, h0, h1, hk => by
    obtain ⟨k, rfl⟩ : ∃ m, k = m + 1 := ⟨k - 1, by omega⟩
    simp only [laws_eqInt64S.l0]
    rw [if_neg (by omega)]
  | d + 1, k, i, h0, h1, hk => by
    obtain ⟨k, rfl⟩ : ∃ m, k = m + 1 := ⟨k - 1, by omega⟩
    simp only [laws_eqInt64S.l0]
    rw [if_pos (by omega), if_pos (by omega), if_pos (by omega)]
    first | rw [if_pos trivial] | rw [if_pos rfl]
    rw [w64 (by omega)]
    exact laws_eqInt64S_l0 l hl d k (i + 1) (by omega) (by omega) (by omega)
theorem laws_eqInt64S_same (l : List Int) (hl : l.length ≤ 1000000000) (k : Nat) (hk : l.length < k) : laws_eqInt64S.f k l l = some true := by
  unfold laws_eqInt64S.f
  rw [if_pos rfl]
  exact laws_eqInt64S_l0 l hl l.length k 0 (by omega) (by omega) hk

/-- A slice of numbers whose array is known behind its length, as 'toInt64S' leaves it. -/
def fullI (r : List Int) : List Int := r ++ List.replicate (room r.length) (-7000000000000000101)
def SpX (w : World) (v : Value) (r : List Int) : Prop := r.length ≤ 1000000 ∧ ∃ A c, v = .slice A r.length c ∧ Sp (Kd.int .i64) w A c (fullI r)
theorem SpX.below {w w1 : World} {v : Value} {r : List Int} (h : SpX w v r) (hb : Below w.heap.size w w1) : SpX w1 v r := by
  obtain ⟨h1, A, c, e, s⟩ := h
  exact ⟨h1, A, c, e, s.below hb⟩
theorem SpX.alloc {w : World} {v : Value} {r : List Int} (h : SpX w v r) (o : Obj) : SpX (w.alloc o) v r := h.below (below_alloc (Below.refl _ _) o)
theorem SpX.drew {w : World} {v : Value} {r : List Int} (h : SpX w v r) : SpX w.drew v r := h.below (below_drew (Below.refl _ _))
theorem SpX.drewN {w : World} {v : Value} {r : List Int} (h : SpX w v r) (m : Nat) : SpX (w.drewN m) v r := h.below (pw_below_drewN (Below.refl _ _) m)
theorem SpX.set {w : World} {v : Value} {r : List Int} (h : SpX w v r) {g j : Nat} (hne : some g ≠ v.ownBlock) (u : Value) : SpX (w.setCell ⟨g, j, none⟩ u) v r := by
  obtain ⟨h1, A, c, rfl, s⟩ := h
  refine ⟨h1, A, c, rfl, ⟨Kd.C_keep 0 s.r ((KeepBut.refl w g none).set_ j u) (fun ad e _ hg => hne ?_), s.le⟩⟩
  subst e
  simp [Value.ownBlock, hg]
theorem R_ne {α : Type} {d : Kd α} {e base : Nat} {w : World} {ok : Nat → Prop} {v : Value} {xs : List α} (h : d.R e w base ok v xs) {g t : Nat} {cells : Array Value} (hb : w.heap[g]? = some (.cells cells t (0, 0))) (ht : ∀ q, q ∈ e :: d.E → q ≠ t) : some g ≠ v.ownBlock :=
  fun e => ((Kd.R_types h hb ht).1 g e.symm).2 rfl
/-- What keeps such slices. -/
def Far (v : Value) (w w' : World) : Prop := ∀ r, SpX w v r → SpX w' v r
theorem Far.refl (v : Value) (w : World) : Far v w w := fun _ h => h
theorem Far.alloc {v : Value} {w w' : World} (h : Far v w w') (o : Obj) : Far v w (w'.alloc o) := fun r hr => (h r hr).alloc o
theorem Far.drew {v : Value} {w w' : World} (h : Far v w w') : Far v w w'.drew := fun r hr => (h r hr).drew
theorem Far.drewN {v : Value} {w w' : World} (h : Far v w w') (m : Nat) : Far v w (w'.drewN m) := fun r hr => (h r hr).drewN m
theorem Far.set {v : Value} {w w' : World} (h : Far v w w') {g j : Nat} (hne : some g ≠ v.ownBlock) (u : Value) : Far v w (w'.setCell ⟨g, j, none⟩ u) := fun r hr => (h r hr).set hne u
theorem Far.below {v : Value} {w w' w1 : World} (h : Far v w w') (hb : Below w'.heap.size w' w1) : Far v w w1 := fun r hr => (h r hr).below hb
theorem SpX.go {w w' : World} {v : Value} {r : List Int} (h : SpX w v r) (hf : Far v w w') : SpX w' v r := hf r h
theorem SpX.via {w w' w1 : World} {v : Value} {r : List Int} (h : SpX w v r) (hf : Far v w w') (hb : Below w'.heap.size w' w1) : SpX w1 v r := (hf r h).below hb
theorem laws_toInt64S_up {k : Nat} {l : List Int} {b : Bool} {r : List Int} (h : laws_toInt64S.f k l b = some r) : ∀ d, laws_toInt64S.f (k + d) l b = some r
  | 0 => h
  | d + 1 => laws_toInt64S.mono l b (k + d) r (laws_toInt64S_up h d)
theorem full1_toInt64S.calls (k : Nat) (A0 : Option Addr) (c0 : Nat) (l0 : List Int) (r : List Int) (w : World) (hn : l0.length ≤ 1000000) (hr0 : Kd.C (Kd.int .i64) w A0 l0.length l0) (hc0 : l0.length ≤ c0) (h : laws_toInt64S.f k l0 false = some r) :
    Calls Try.prog 131 #[.slice A0 l0.length c0, .bool false] w fun e w' => ∃ v1_ : Value, e = .returned v1_ ∧ Kd.R (Kd.int .i64) 2 w' w.heap.size (fun _ => True) v1_ r ∧ SpX w' v1_ r ∧ Below w.heap.size w w' := by
  have e : r = l0 := by
    have h1 := laws_toInt64S_eq l0 false (.inl rfl) hn (k + (2 * l0.length + 10)) (by omega)
    rw [laws_toInt64S_up h] at h1
    injection h1 with h1
    rw [h1, List.take_append_of_le_length (by simp), List.take_of_length_le (by simp)]
  subst e
  refine (full_toInt64S.calls (2 * r.length + 10) A0 c0 r false _ w hr0 hc0 (full_toInt64S_eq r false (.inl rfl) hn _ (by omega))).mono ?_
  rintro e w' ⟨A, c, y, hy, rfl, ho, hs, hb⟩
  have hy2 : y = r := by rw [← hy, List.take_append_of_le_length (by simp), List.take_of_length_le (by simp)]
  subst hy2
  exact ⟨_, rfl, ho, ⟨hn, A, c, rfl, hs⟩, hb⟩
def full_intactInt64S.f (k : Nat) (l0 l1 : List Int) : Option Bool := if l0 = l1 then some true else none
theorem full_intactInt64S.calls (k : Nat) (A0 : Option Addr) (c0 : Nat) (l0 : List Int) (A1 : Option Addr) (c1 : Nat) (l1 : List Int) (r : Bool) (w : World) (hs0 : SpX w (.slice A0 l0.length c0) l0) (hs1 : SpX w (.slice A1 l1.length c1) l1) (h : full_intactInt64S.f k l0 l1 = some r) :
    Calls Try.prog 135 #[.slice A0 l0.length c0, .slice A1 l1.length c1] w fun e w' => e = .returned (.bool r) ∧ Below w.heap.size w w' := by
  unfold full_intactInt64S.f at h
  split at h
  · injection h with h
    subst h
    subst l1
    obtain ⟨hn, A, c, e, s0⟩ := hs0
    obtain ⟨_, A', c', e', s1⟩ := hs1
    injection e with e1 e2 e3
    injection e' with e1' e2' e3'
    subst e1 e3 e1' e3'
    have hl : (fullI l0).length = l0.length + room l0.length := by unfold fullI; simp
    have hr := room_le l0.length
    refine (same_intactInt64S.calls (2 * (fullI l0).length + 100) _ _ _ _ l0.length (fullI l0) (room l0.length : Nat) w s0.r s0.le s1.r s1.le (room_eq _) ?_ (laws_eqInt64S_same _ (by omega) _ (by omega))).mono fun e w' h => h
    rw [w64 (by omega), hl]
    omega
  · cases h

end Go.Proofs.Ytmemamokmeonjaa.PFnExactStateOf
