/- QFnTablese of the law FnTables: taken over, declaration by declaration, as far as the law leans on it (the words and the printed functions are the kit's own print). No condition but what each says. -/
import Derived.Test.YtedcdhnbceaaeaaZFnTablesav
import Derived.Test.YtedcdhnbceaaeaaZFnTablesaw
import Derived.Test.YtedcdhnbceaaeaaZFnTablesax
import Derived.Test.YtedcdhnbceaaeaaZFnTablesay
import Derived.Test.YtedcdhnbceaaeaaZFnTablesaz
import Derived.Test.YtedcdhnbceaaeaaZFnTablesba
namespace Go.Proofs.Ytedcdhnbceaaeaa.PFnTables
open Go.RowKit Go.Proofs.YtedcdhnbceaaeaaW.PrintWords Go.Proofs.YtedcdhnbceaaeaaW.PrintLast Go.Proofs.YtedcdhnbceaaeaaW.PrintMore
attribute [local go_sem] max2_int min2_int max_two min_two max_three min_three max_four min_four   -- for this text's walks alone
set_option linter.unusedVariables false
set_option linter.unusedSimpArgs false
open Bool renaming true → t_, false → f_
def impl_WidenTable.l0 : Nat → Int → List (S81) → Int → Int → Option ((List (S81)) × Int)
 | 0, _, _, _, _ => none
 | k + 1, x1, x6, x18, x19 => if x19 < x18 then (if 0 ≤ x19 then (if x19 < (x6.length : Int) then ((impl_ceilDiv.f (wrap64 (x1 * ((rd_T81 x6 x19).f2))) 100).bind fun t313 => (if (wrap64 (((rd_T81 x6 x19).f2) + t313)) > 10000 then (some (([] : List (S81)), 3)) else (impl_WidenTable.l0 k x1 (x6.set (x19 : Int).toNat (⟨(rd_T81 x6 x19).f0, (rd_T81 x6 x19).f1, wrap64 (((rd_T81 x6 x19).f2) + t313)⟩ : S81)) x18 (wrap64 (x19 + 1))))) else (none)) else (none)) else (some (x6, 0))
def impl_WidenTable.f (k : Nat) (l0 : List (S81)) (a1 : Int) : Option ((List (S81)) × Int) := (impl_IsTable.f k l0).bind fun t303 => (if t303 = true then ((impl_within.f a1 0 100).bind fun t304 => (if t304 = true then ((some (([] : List (S81)) : List (S81))).bind fun y305 => (if y305.length + l0.length < 5864062014805 then ((some (y305 ++ l0 : List (S81))).bind fun y308 => (impl_WidenTable.l0 k a1 y308 (y308.length : Int) 0)) else (none))) else (some (([] : List (S81)), 2)))) else (some (([] : List (S81)), 1)))
def impl_WidenTable.T9 : Bool × List (List Nat × List Nat) := (true, [([], []), ([], []), ([0, 1], [0, 1]), ([2], [2]), ([3], [3]), ([], []), ([], []), ([], []), ([6, 7], [6, 7]), ([8], [8]), ([9], [9]), ([5, 10], [5, 10]), ([11], [11]), ([4, 12], [4, 12]), ([0, 1, 0, 1, 2, 3, 4, 5, 6, 7, 8, 9, 10, 11, 12, 13], [0, 1]), ([14, 0, 1, 2, 3, 4, 5, 6, 7, 8, 9, 10, 11, 12, 13], [14]), ([15, 13, 12, 0, 1, 2, 3, 4, 5, 6, 7, 8, 9, 10, 11, 12, 13], [13, 15])])
def impl_WidenTable.B9 : List Nat := [0, 0, 3, 7, 15, 0, 0, 0, 192, 448, 960, 2016, 4064, 8191, 16383, 32767, 65535]
theorem impl_WidenTable.tab9 : rtab .any (opsOf Try.f47 9) = impl_WidenTable.T9 := by kernel_rfl
theorem impl_WidenTable.bits9 : waitsOk impl_WidenTable.T9.2 impl_WidenTable.B9 = true := by kernel_rfl
set_option maxHeartbeats 8000000 in
set_option maxRecDepth 100000 in
theorem impl_WidenTable.calls (k : Nat) (A0 : Option Addr) (c0 : Nat) (l0 : List (S81)) (a1 : Int) (r1 : List (S81)) (r2 : Int) (w : World) (hr0 : Kd.C k81 w A0 l0.length l0) (hc0 : l0.length ≤ c0) (h : impl_WidenTable.f k l0 a1 = some (r1, r2)) :
  Calls Try.prog 47 #[.slice A0 l0.length c0, .int .i64 a1] w fun e w' => ∃ v0_ : Value, e = .returned (.tuple #[v0_, .int .i64 r2]) ∧ Kd.R k81 81 w' w.heap.size (fun _ => True) v0_ r1 ∧ Below w.heap.size w w' := by
 have HR0 := Aside0.mk hr0
 have HC0 := Aside0.mk hc0
 clear hr0 hc0
 have HB := Aside0.mk (Below.refl w.heap.size w)
 have H : ((impl_IsTable.f k l0).bind fun t303 => (if t303 = true then ((impl_within.f a1 0 100).bind fun t304 => (if t304 = true then ((some (([] : List (S81)) : List (S81))).bind fun y305 => (if y305.length + l0.length < 5864062014805 then ((some (y305 ++ l0 : List (S81))).bind fun y308 => (impl_WidenTable.l0 k a1 y308 (y308.length : Int) 0)) else (none))) else (some (([] : List (S81)), 2)))) else (some (([] : List (S81)), 1)))) = some (r1, r2) := h
 clear h
 replace H := Option.bind_eq_some_iff.mp H
 obtain ⟨t303, A30, H⟩ := H
 try dsimp only at H
 have A3 := Aside0.mk A30
 clear A30
 by_cases c4 : t303 = true
 case neg =>
  replace c4 := Bool.eq_false_iff.mpr c4
  subst c4
  rw [if_neg (show ¬ (false = true) by decide)] at H
  simp only [Option.some.injEq, Prod.mk.injEq] at H
  obtain ⟨rfl, rfl⟩ := H
  go_enter Try.func47, Try.ntmps47
  go_wp2_with (first | ((with_reducible refine gate_callee (f := 54) rfl ?_); refine goesL_ (some 9) rfl rfl Try.func54 (by kernel_rfl) rfl #[.slice A0 l0.length c0] rfl ag_ ?_; (with_reducible refine (impl_IsTable.calls k _ _ l0 false _ ?side1 ?side2 A3.out).mono ?_); (case side1 => exact r9_ HR0.out); (case side2 => exact HC0.out); rintro e w25 ⟨rfl, hb⟩; refine ⟨_, rfl, ?_⟩; replace HB := Aside0.mk (below_step (bl_ HB.out) hb); (try clear hb); (try clear hb2); (try clear hk); (try clear hi)))
  go_ret2
  exact ⟨_, re_, by first | exact Kd.R_nil _ _ _ _ _ | exact Kd.N_nil _ _ _ _ _ | exact Kd.V_nil _ _ _ _ _ | exact Kd.Q_nil _ _ _ _ _ | exact Kd.S_nil _ _ _ _ _, bl_ HB.out⟩


 subst c4
 rw [if_pos rfl] at H
 replace H := Option.bind_eq_some_iff.mp H
 obtain ⟨t304, A50, H⟩ := H
 try dsimp only at H
 have A5 := Aside0.mk A50
 clear A50
 by_cases c6 : t304 = true
 case neg =>
  replace c6 := Bool.eq_false_iff.mpr c6
  subst c6
  rw [if_neg (show ¬ (false = true) by decide)] at H
  simp only [Option.some.injEq, Prod.mk.injEq] at H
  obtain ⟨rfl, rfl⟩ := H
  go_enter Try.func47, Try.ntmps47
  go_wp2_with (first | ((with_reducible refine gate_callee (f := 54) rfl ?_); refine goesL_ (some 9) rfl rfl Try.func54 (by kernel_rfl) rfl #[.slice A0 l0.length c0] rfl ag_ ?_; (with_reducible refine (impl_IsTable.calls k _ _ l0 true _ ?side1 ?side2 A3.out).mono ?_); (case side1 => exact r9_ HR0.out); (case side2 => exact HC0.out); rintro e w24 ⟨rfl, hb⟩; refine ⟨_, rfl, ?_⟩; replace HB := Aside0.mk (below_step (bl_ HB.out) hb); (try clear hb); (try clear hb2); (try clear hk); (try clear hi)) | ((with_reducible refine gate_callee (f := 130) rfl ?_); refine goesL_ (some 12) rfl rfl Try.func130 (by kernel_rfl) rfl #[.int .i64 a1, .int .i64 0, .int .i64 100] rfl ag_ ?_; (with_reducible refine (impl_within.calls a1 0 100 false _ A5.out).mono ?_); rintro e w' ⟨rfl, ⟨nd, rfl⟩⟩; refine ⟨_, rfl, ?_⟩))
  go_ret2
  exact ⟨_, re_, by first | exact Kd.R_nil _ _ _ _ _ | exact Kd.N_nil _ _ _ _ _ | exact Kd.V_nil _ _ _ _ _ | exact Kd.Q_nil _ _ _ _ _ | exact Kd.S_nil _ _ _ _ _, bl_ HB.out⟩
 subst c6
 rw [if_pos rfl] at H
 obtain ⟨y305, hy305⟩ : ∃ y_ : List (S81), y_ = (([] : List (S81))) := ⟨_, rfl⟩
 replace H : (if y305.length + l0.length < 5864062014805 then ((some (y305 ++ l0 : List (S81))).bind fun y308 => (impl_WidenTable.l0 k a1 y308 (y308.length : Int) 0)) else (none)) = some (r1, r2) := by first | (rw [hy305]; with_reducible exact H) | (have H2_ := (Option.bind_some _ _).symm.trans H; rw [hy305]; with_reducible exact H2_) | (have H2_ := (Option.bind_some _ _).symm.trans H; with_reducible exact H2_) | with_reducible exact H | (rw [hy305]; exact H) | exact H
 have Ny305 := Aside0.mk hy305
 clear hy305
 by_cases c7 : y305.length + l0.length < 5864062014805
 case neg =>
  rw [if_neg c7] at H
  exact absurd H (by simp)
 rw [if_pos c7] at H
 have LMc7 := Aside0.mk c7
 clear c7
 obtain ⟨y308, hy308⟩ : ∃ y_ : List (S81), y_ = (y305 ++ l0) := ⟨_, rfl⟩
 replace H : (impl_WidenTable.l0 k a1 y308 (y308.length : Int) 0) = some (r1, r2) := by first | (rw [hy308]; with_reducible exact H) | (have H2_ := (Option.bind_some _ _).symm.trans H; rw [hy308]; with_reducible exact H2_) | (have H2_ := (Option.bind_some _ _).symm.trans H; with_reducible exact H2_) | with_reducible exact H | (rw [hy308]; exact H) | exact H
 have Ny308 := Aside0.mk hy308
 clear hy308
 have H' := Aside0.mk H
 clear H
 go_enter Try.func47, Try.ntmps47
 go_wp2_with (first | ((with_reducible refine gate_callee (f := 54) rfl ?_); refine goesL_ (some 9) rfl rfl Try.func54 (by kernel_rfl) rfl #[.slice A0 l0.length c0] rfl ag_ ?_; (with_reducible refine (impl_IsTable.calls k _ _ l0 true _ ?side1 ?side2 A3.out).mono ?_); (case side1 => exact r9_ HR0.out); (case side2 => exact HC0.out); rintro e w8 ⟨rfl, hb⟩; refine ⟨_, rfl, ?_⟩; replace HB := Aside0.mk (below_step (bl_ HB.out) hb); (try clear hb); (try clear hb2); (try clear hk); (try clear hi)) | ((with_reducible refine gate_callee (f := 130) rfl ?_); refine goesL_ (some 12) rfl rfl Try.func130 (by kernel_rfl) rfl #[.int .i64 a1, .int .i64 0, .int .i64 100] rfl ag_ ?_; (with_reducible refine (impl_within.calls a1 0 100 true _ A5.out).mono ?_); rintro e w' ⟨rfl, ⟨nd, rfl⟩⟩; refine ⟨_, rfl, ?_⟩) | ((with_reducible refine gate_dst (N := 14) rfl ?_); refine Kd.R_lit k81 _ 81 ?hg (N := 14) ?hd (xs := ([] : List (S81))) (inner := []) (ok := fun _ => True) (okp := fun _ => True) ?hr ?hp (fun _ hk => hk) trivial (Below.refl _ _) (Nat.le_refl _) (by simp) ?_; (case hd => rfl); (case hg => rfl); (case hr => first | (go_simp; done) | (go_simp; rfl)); (case hp => exact (Reps.none _ _)); intro v306 w9 ho10 hb hg_ hnew_; clear hg_ hnew_; (first | rw [← Ny305.out] at ho10 | (simp only [Int.reduceToNat] at ho10; rw [← Ny305.out] at ho10)); have HO307 := Aside0.mk (Kd.R_lower ho10 (below_size (bl_ HB.out))); replace HB := Aside0.mk (below_step (bl_ HB.out) hb); clear hb ho10) | ((with_reducible refine gate_builtin (b := .append) (xs := #[.tmp 14, .tmp 15]) rfl ?_); at_builtin; refine Kd.R_append_rows k81 (w0 := w) w.heap.size rfl (.tmp 14) (.tmp 15) 29 81 (.agg #[(.int .i64 0), (.int .i64 0), (.int .i64 0)]) 24 rfl Try.underlying29 info81 rfl (by decide) (by omega) v306 y305 l0 _ _ _ (fun _ => True) (fun _ => False) rfl rfl ?aO ?aR (fun _ _ h => h) (fun _ h => h.elim) ?aF ?aB ?aS ?aL ?_; (case aR => exact r7_ HR0.out HB.out); (case aB => exact (bl_ HB.out)); (case aF => exact (fun _ _ => trivial)); (case aO => exact (rk_ HO307.out)); (case aS => exact (below_size (bl_ HB.out))); (case aL => have := LMc7.out; omega); intro v309 w11 ho hb hg hat; rw [← Ny308.out] at ho; have n0_ := Aside0.mk (hb); have n1_ := Aside0.mk (ho); clear HB; clear HO307; have HB := n0_; have HO310 := n1_; clear n0_ n1_; clear ho hb hg hat; obtain ⟨Ao12, co12, eo12⟩ := Kd.R_slice HO310.out; subst eo12))
 go_loopg [19] k (fun kq v19 w' => ∃ (x6_1 : List (S81)) (x19_1 : Int), v19 = .int .i64 x19_1 ∧ Aside0 (impl_WidenTable.l0 kq a1 x6_1 (y308.length : Int) x19_1 = some (r1, r2)) ∧ Aside0 (kq ≤ k) ∧ Aside0 (Kd.R k81 81 w' w.heap.size (fun _ => True) (.slice Ao12 y308.length co12) x6_1) ∧ Aside0 (Below w.heap.size w w'))
 case atStart => exact ⟨(y308), (0), rs_, H', ⟨Nat.le_refl _⟩, ⟨rk_ HO310.out⟩, ⟨bl_ HB.out⟩⟩
 case round =>
  clear H'
  try clear c1
  try clear p2
  try clear c4
  try clear c5
  try clear c6
  try clear c7
  obtain ⟨x6_1, x19_1, rfl, HA, HK1, HO_6, HB⟩ := hrel
  have hl6_1 := (Kd.R_reads' HO_6.out).1
  rw [hl6_1] at HO_6
  (try simp only [hl6_1])
  cases gk with
  | zero => exact absurd HA.out (by simp [impl_WidenTable.l0])
  | succ k1 =>
   have H := HA.out
   clear HA
   simp only [impl_WidenTable.l0] at H
   by_cases c13 : x19_1 < (y308.length : Int)
   case neg =>
    rw [if_neg c13] at H
    have c13b0 := decide_eq_false c13
    (try simp only [hl6_1] at c13b0)
    clear c13
    simp only [Option.some.injEq, Prod.mk.injEq] at H
    obtain ⟨rfl, rfl⟩ := H
    go_wp2
    go_ret2
    exact ⟨_, re_, rk_ HO_6.out, bl_ HB.out⟩
   rw [if_pos c13] at H
   have c13b0 := decide_eq_true c13
   clear c13
   by_cases c14 : 0 ≤ x19_1
   case neg =>
    rw [if_neg c14] at H
    exact absurd H (by simp)
   rw [if_pos c14] at H
   have c14b0 := decide_eq_true c14
   clear c14
   by_cases c15 : x19_1 < (x6_1.length : Int)
   case neg =>
    rw [if_neg c15] at H
    exact absurd H (by simp)
   rw [if_pos c15] at H
   have c15b0 := decide_eq_true c15
   clear c15
   replace H := Option.bind_eq_some_iff.mp H
   obtain ⟨t313, A160, H⟩ := H
   try dsimp only at H
   have A16 := Aside0.mk A160
   clear A160
   obtain ⟨y314, hy314⟩ : ∃ y_ : List (S81), y_ = (x6_1.set (x19_1 : Int).toNat (⟨(rd_T81 x6_1 x19_1).f0, (rd_T81 x6_1 x19_1).f1, wrap64 (((rd_T81 x6_1 x19_1).f2) + t313)⟩ : S81)) := ⟨_, rfl⟩
   replace H : (if (wrap64 (((rd_T81 x6_1 x19_1).f2) + t313)) > 10000 then (some (([] : List (S81)), 3)) else (impl_WidenTable.l0 k1 a1 y314 (y308.length : Int) (wrap64 (x19_1 + 1)))) = some (r1, r2) := by first | (rw [hy314]; with_reducible exact H) | (have H2_ := (Option.bind_some _ _).symm.trans H; rw [hy314]; with_reducible exact H2_) | (have H2_ := (Option.bind_some _ _).symm.trans H; with_reducible exact H2_) | with_reducible exact H | (rw [hy314]; exact H) | exact H
   have Ny314 := Aside0.mk hy314
   clear hy314
   by_cases c19 : (wrap64 (((rd_T81 x6_1 x19_1).f2) + t313)) > 10000
   case pos =>
    rw [if_pos c19] at H
    have c19b0 : decide (10000 < (wrap64 (((rd_T81 x6_1 x19_1).f2) + t313))) = true := decide_eq_true c19
    clear c19
    simp only [Option.some.injEq, Prod.mk.injEq] at H
    obtain ⟨rfl, rfl⟩ := H
    try go_wp2
    replace HO_6 := Aside0.mk (Kd.R_drew HO_6.out)
    replace HB := Aside0.mk (below_drew1 HB.out)
    have p311 : 0 ≤ (x19_1 : Int) := od_
    have q311 : x19_1 < (x6_1.length : Int) := od_
    obtain ⟨ad311, e311, hx311_0, hx311_1, hx311_2⟩ := at_T81 (Kd.R_reads' HO_6.out).2.2 x19_1 p311 q311
    cases e311
    replace p311 := eq_true p311
    replace q311 := eq_true q311
    have p312 : 0 ≤ (x19_1 : Int) := od_
    have q312 : x19_1 < (x6_1.length : Int) := od_
    obtain ⟨ad312, e312, hx312_0, hx312_1, hx312_2⟩ := at_T81 (Kd.R_reads' HO_6.out).2.2 x19_1 p312 q312
    obtain rfl : ad311 = ad312 := (by injection e312)
    replace p312 := eq_true p312
    replace q312 := eq_true q312
    refine start_ (n := 17) (S := fun w' => w'.cell? (ad311.add ((x19_1).toNat * 3)) = some (.int .i64 ((rd_T81 x6_1 x19_1).f0)) ∧ w'.cell? ⟨(ad311.add ((x19_1).toNat * 3)).block, (ad311.add ((x19_1).toNat * 3)).off + 1, none⟩ = some (.int .i64 ((rd_T81 x6_1 x19_1).f1)) ∧ w'.cell? ⟨(ad311.add ((x19_1).toNat * 3)).block, (ad311.add ((x19_1).toNat * 3)).off + 2, none⟩ = some (.int .i64 ((rd_T81 x6_1 x19_1).f2)) ∧ w'.cell? (ad311.add ((x19_1).toNat * 3)) = some (.int .i64 ((rd_T81 x6_1 x19_1).f0)) ∧ w'.cell? ⟨(ad311.add ((x19_1).toNat * 3)).block, (ad311.add ((x19_1).toNat * 3)).off + 1, none⟩ = some (.int .i64 ((rd_T81 x6_1 x19_1).f1)) ∧ w'.cell? ⟨(ad311.add ((x19_1).toNat * 3)).block, (ad311.add ((x19_1).toNat * 3)).off + 2, none⟩ = some (.int .i64 ((rd_T81 x6_1 x19_1).f2))) (ds := [16]) #[f_,f_,f_,f_,f_,f_,f_,f_,f_,f_,f_,f_,f_,f_,f_,f_,f_] (by kernel_rfl) rfl rfl ⟨hx311_0, hx311_1, hx311_2, hx312_0, hx312_1, hx312_2⟩ (fun hHeld => ?_); refine with_tabW impl_WidenTable.tab9 impl_WidenTable.bits9 (fun HT_ HW_ => ?_)
    generalize wr.drew = w20 at HO_6 HB hx311_0 hx311_1 hx311_2 hx312_0 hx312_1 hx312_2 hHeld ⊢
    refine pv_ 0 22 HT_.out ?_
    refine pv_ 1 23 HT_.out ?_
    refine pv_ 2 24 HT_.out ?_
    refine pv_ 3 25 HT_.out ?_
    refine pv_ 5 27 HT_.out ?_
    refine pv_ 6 28 HT_.out ?_
    refine pv_ 7 29 HT_.out ?_
    refine pv_ 8 30 HT_.out ?_
    refine pv_ 9 31 HT_.out ?_
    refine tv6_ 4 26 HT_.out HW_.out hHeld ?_
    refine tv6_ 10 32 HT_.out HW_.out hHeld ?_
    refine pu_ 11 33 #[t_,t_,t_,t_,t_,t_,t_,t_,t_,t_,t_,t_,f_,f_,f_,f_,f_] HT_.out ?_
    refine one_ (i := 12) (N := some 34) #[t_,t_,t_,t_,t_,t_,t_,t_,t_,t_,t_,t_,t_,f_,f_,f_,f_] rfl rfl (one_of HT_.out (by kernel_rfl)) (by decide) (fun K hK => ?_)
    refine goes_ Try.func146 (by kernel_rfl) rfl #[.int .i64 (wrap64 (a1 * ((rd_T81 x6_1 x19_1).f2))), .int .i64 100] (by rfl) rfl rfl ag_ ?_
    with_reducible refine (impl_ceilDiv.calls (wrap64 (a1 * ((rd_T81 x6_1 x19_1).f2))) 100 t313 _ A16.out).mono ?_
    rintro e w' ⟨rfl, ⟨nd, rfl⟩⟩
    refine ⟨_, rfl, ?_⟩
    have p17 : 0 ≤ (x19_1 : Int) := od_
    have q17 : (x19_1 : Int) < ((x6_1.length : Int) : Int) := od_
    obtain ⟨go17, co17, eo17, gb17, gl17, cl17, HG17⟩ := Kd.R_form HO_6.out (by omega)
    (first | cases eo17 | (injection eo17 with ea_ en_ ec_; (first | subst ea_ | (injection ea_ with ea_; subst ea_)); subst ec_; clear en_))
    have GB17 := Aside0.mk gb17
    have GG17 := Aside0.mk HG17
    clear gb17 gl17 HG17
    (first | simp only [add_plain] at hx311_0 | skip)
    (first | simp only [add_plain] at hx311_1 | skip)
    (first | simp only [add_plain] at hx311_2 | skip)
    (first | simp only [add_plain] at hx312_0 | skip)
    (first | simp only [add_plain] at hx312_1 | skip)
    (first | simp only [add_plain] at hx312_2 | skip)
    obtain ⟨ce17, hcl17, hM17, hcc17, hfr17⟩ := Kd.R_elem HO_6.out z81 (x19_1 : Int) p17 q17
    obtain rfl := k81_openM hM17
    have hx17_0 : World.cell? _ ⟨go17, (x19_1 : Int).toNat * 3, none⟩ = some (.int .i64 ((rd_T81 x6_1 x19_1).f0)) := hcc17 0 _ rfl
    have hx17_1 : World.cell? _ ⟨go17, (x19_1 : Int).toNat * 3 + 1, none⟩ = some (.int .i64 ((rd_T81 x6_1 x19_1).f1)) := hcc17 1 _ rfl
    have hx17_2 : World.cell? _ ⟨go17, (x19_1 : Int).toNat * 3 + 2, none⟩ = some (.int .i64 ((rd_T81 x6_1 x19_1).f2)) := hcc17 2 _ rfl
    have hf17_0 : World.frozen? _ ⟨go17, (x19_1 : Int).toNat * 3, none⟩ = false := hfr17 0
    have hf17_1 : World.frozen? _ ⟨go17, (x19_1 : Int).toNat * 3 + 1, none⟩ = false := hfr17 1
    have hf17_2 : World.frozen? _ ⟨go17, (x19_1 : Int).toNat * 3 + 2, none⟩ = false := hfr17 2
    clear hcl17 hcc17 hfr17 hM17
    replace p17 := eq_true p17
    replace q17 := eq_true q17
    obtain ⟨ce21, hcl21, hM21, hcc21, hfr21⟩ := Kd.R_elem HO_6.out z81 (x19_1 : Int) od_ (by have h_ : (x19_1 : Int) < ((x6_1.length : Int) : Int) := od_; first | exact h_ | (have e_ := (Kd.R_reads' HO_6.out).1; omega) | simpa using h_)
    obtain rfl := k81_openM hM21
    have HP21 := (Kd.R_seg HO_6.out (x19_1 : Int) od_ (by have h_ : (x19_1 : Int) < ((x6_1.length : Int) : Int) := od_; first | exact h_ | (have e_ := (Kd.R_reads' HO_6.out).1; omega) | simpa using h_) (seg := [.int .i64 (wrap64 (((rd_T81 x6_1 x19_1).f2) + t313))]) (j := 2) hcl21 hcc21 (show 3 ≤ 3 from by decide) (x' := (⟨(rd_T81 x6_1 x19_1).f0, (rd_T81 x6_1 x19_1).f1, wrap64 (((rd_T81 x6_1 x19_1).f2) + t313)⟩ : S81)) (k81_mkM _ _ _ (⟨(rd_T81 x6_1 x19_1).f0, (rd_T81 x6_1 x19_1).f1, wrap64 (((rd_T81 x6_1 x19_1).f2) + t313)⟩ : S81) ) (fun _ hk => hk)).1
    rw [← Ny314.out] at HP21
    have HQ21 := Aside0.mk HP21
    clear hcl21 hcc21 hfr21 hM21 HP21
    refine hK.out _ _ ⟨hHeld.1, hHeld.2.1, hHeld.2.2.1, hHeld.2.2.2.1, hHeld.2.2.2.2.1, hHeld.2.2.2.2.2⟩ (fun hHeld => ?_)
    clear hK K
    refine norm_ (a' := ?_) ?_ ?_
    rotate_left
    ·show Act.put _ (some 34) _ = _
     simp only [pz_]
     rfl
    refine pv_ 13 35 HT_.out ?_
    refine pv_ 14 36 HT_.out ?_
    refine pu_ 15 37 #[t_,t_,t_,t_,t_,t_,t_,t_,t_,t_,t_,t_,t_,t_,t_,t_,f_] HT_.out ?_
    refine last_ (i := 16) (N := none) #[t_,t_,t_,t_,t_,t_,t_,t_,t_,t_,t_,t_,t_,t_,t_,t_,t_] rfl rfl (one_of HT_.out (by kernel_rfl)) (by decide) (fun K hK => ?_)
    refine skip_ (w1 := ?_) (by rfl) rfl ?_ ?_
    rotate_left
    ·go_simp
     rfl
    refine hK.out _ _ ?_
    clear hK K
    refine done_ (done_of HT_.out (by kernel_rfl)) ?_
    have p18 : 0 ≤ (x19_1 : Int) := od_
    have q18 : (x19_1 : Int) < ((x6_1.length : Int) : Int) := od_
    replace p18 := eq_true p18
    replace q18 := eq_true q18
    try go_wp2
    go_ret2
    exact ⟨_, re_, by first | exact Kd.R_nil _ _ _ _ _ | exact Kd.N_nil _ _ _ _ _ | exact Kd.V_nil _ _ _ _ _ | exact Kd.Q_nil _ _ _ _ _ | exact Kd.S_nil _ _ _ _ _, r3_ HB.out GB17.out⟩
   rw [if_neg c19] at H
   have c19b0 : decide (10000 < (wrap64 (((rd_T81 x6_1 x19_1).f2) + t313))) = false := decide_eq_false c19
   clear c19
   have H' := Aside0.mk H
   clear H
   try go_wp2
   replace HO_6 := Aside0.mk (Kd.R_drew HO_6.out)
   replace HB := Aside0.mk (below_drew1 HB.out)
   have p311 : 0 ≤ (x19_1 : Int) := od_
   have q311 : x19_1 < (x6_1.length : Int) := od_
   obtain ⟨ad311, e311, hx311_0, hx311_1, hx311_2⟩ := at_T81 (Kd.R_reads' HO_6.out).2.2 x19_1 p311 q311
   cases e311
   replace p311 := eq_true p311
   replace q311 := eq_true q311
   have p312 : 0 ≤ (x19_1 : Int) := od_
   have q312 : x19_1 < (x6_1.length : Int) := od_
   obtain ⟨ad312, e312, hx312_0, hx312_1, hx312_2⟩ := at_T81 (Kd.R_reads' HO_6.out).2.2 x19_1 p312 q312
   obtain rfl : ad311 = ad312 := (by injection e312)
   replace p312 := eq_true p312
   replace q312 := eq_true q312
   refine start_ (n := 17) (S := fun w' => w'.cell? (ad311.add ((x19_1).toNat * 3)) = some (.int .i64 ((rd_T81 x6_1 x19_1).f0)) ∧ w'.cell? ⟨(ad311.add ((x19_1).toNat * 3)).block, (ad311.add ((x19_1).toNat * 3)).off + 1, none⟩ = some (.int .i64 ((rd_T81 x6_1 x19_1).f1)) ∧ w'.cell? ⟨(ad311.add ((x19_1).toNat * 3)).block, (ad311.add ((x19_1).toNat * 3)).off + 2, none⟩ = some (.int .i64 ((rd_T81 x6_1 x19_1).f2)) ∧ w'.cell? (ad311.add ((x19_1).toNat * 3)) = some (.int .i64 ((rd_T81 x6_1 x19_1).f0)) ∧ w'.cell? ⟨(ad311.add ((x19_1).toNat * 3)).block, (ad311.add ((x19_1).toNat * 3)).off + 1, none⟩ = some (.int .i64 ((rd_T81 x6_1 x19_1).f1)) ∧ w'.cell? ⟨(ad311.add ((x19_1).toNat * 3)).block, (ad311.add ((x19_1).toNat * 3)).off + 2, none⟩ = some (.int .i64 ((rd_T81 x6_1 x19_1).f2))) (ds := [16]) #[f_,f_,f_,f_,f_,f_,f_,f_,f_,f_,f_,f_,f_,f_,f_,f_,f_] (by kernel_rfl) rfl rfl ⟨hx311_0, hx311_1, hx311_2, hx312_0, hx312_1, hx312_2⟩ (fun hHeld => ?_); refine with_tabW impl_WidenTable.tab9 impl_WidenTable.bits9 (fun HT_ HW_ => ?_)
   generalize wr.drew = w22 at HO_6 HB hx311_0 hx311_1 hx311_2 hx312_0 hx312_1 hx312_2 hHeld ⊢
   refine pv_ 0 22 HT_.out ?_
   refine pv_ 1 23 HT_.out ?_
   refine pv_ 2 24 HT_.out ?_
   refine pv_ 3 25 HT_.out ?_
   refine pv_ 5 27 HT_.out ?_
   refine pv_ 6 28 HT_.out ?_
   refine pv_ 7 29 HT_.out ?_
   refine pv_ 8 30 HT_.out ?_
   refine pv_ 9 31 HT_.out ?_
   refine tv6_ 4 26 HT_.out HW_.out hHeld ?_
   refine tv6_ 10 32 HT_.out HW_.out hHeld ?_
   refine pu_ 11 33 #[t_,t_,t_,t_,t_,t_,t_,t_,t_,t_,t_,t_,f_,f_,f_,f_,f_] HT_.out ?_
   refine one_ (i := 12) (N := some 34) #[t_,t_,t_,t_,t_,t_,t_,t_,t_,t_,t_,t_,t_,f_,f_,f_,f_] rfl rfl (one_of HT_.out (by kernel_rfl)) (by decide) (fun K hK => ?_)
   refine goes_ Try.func146 (by kernel_rfl) rfl #[.int .i64 (wrap64 (a1 * ((rd_T81 x6_1 x19_1).f2))), .int .i64 100] (by rfl) rfl rfl ag_ ?_
   with_reducible refine (impl_ceilDiv.calls (wrap64 (a1 * ((rd_T81 x6_1 x19_1).f2))) 100 t313 _ A16.out).mono ?_
   rintro e w' ⟨rfl, ⟨nd, rfl⟩⟩
   refine ⟨_, rfl, ?_⟩
   have p17 : 0 ≤ (x19_1 : Int) := od_
   have q17 : (x19_1 : Int) < ((x6_1.length : Int) : Int) := od_
   obtain ⟨go17, co17, eo17, gb17, gl17, cl17, HG17⟩ := Kd.R_form HO_6.out (by omega)
   (first | cases eo17 | (injection eo17 with ea_ en_ ec_; (first | subst ea_ | (injection ea_ with ea_; subst ea_)); subst ec_; clear en_))
   have GB17 := Aside0.mk gb17
   have GG17 := Aside0.mk HG17
   clear gb17 gl17 HG17
   (first | simp only [add_plain] at hx311_0 | skip)
   (first | simp only [add_plain] at hx311_1 | skip)
   (first | simp only [add_plain] at hx311_2 | skip)
   (first | simp only [add_plain] at hx312_0 | skip)
   (first | simp only [add_plain] at hx312_1 | skip)
   (first | simp only [add_plain] at hx312_2 | skip)
   obtain ⟨ce17, hcl17, hM17, hcc17, hfr17⟩ := Kd.R_elem HO_6.out z81 (x19_1 : Int) p17 q17
   obtain rfl := k81_openM hM17
   have hx17_0 : World.cell? _ ⟨go17, (x19_1 : Int).toNat * 3, none⟩ = some (.int .i64 ((rd_T81 x6_1 x19_1).f0)) := hcc17 0 _ rfl
   have hx17_1 : World.cell? _ ⟨go17, (x19_1 : Int).toNat * 3 + 1, none⟩ = some (.int .i64 ((rd_T81 x6_1 x19_1).f1)) := hcc17 1 _ rfl
   have hx17_2 : World.cell? _ ⟨go17, (x19_1 : Int).toNat * 3 + 2, none⟩ = some (.int .i64 ((rd_T81 x6_1 x19_1).f2)) := hcc17 2 _ rfl
   have hf17_0 : World.frozen? _ ⟨go17, (x19_1 : Int).toNat * 3, none⟩ = false := hfr17 0
   have hf17_1 : World.frozen? _ ⟨go17, (x19_1 : Int).toNat * 3 + 1, none⟩ = false := hfr17 1
   have hf17_2 : World.frozen? _ ⟨go17, (x19_1 : Int).toNat * 3 + 2, none⟩ = false := hfr17 2
   clear hcl17 hcc17 hfr17 hM17
   replace p17 := eq_true p17
   replace q17 := eq_true q17
   obtain ⟨ce23, hcl23, hM23, hcc23, hfr23⟩ := Kd.R_elem HO_6.out z81 (x19_1 : Int) od_ (by have h_ : (x19_1 : Int) < ((x6_1.length : Int) : Int) := od_; first | exact h_ | (have e_ := (Kd.R_reads' HO_6.out).1; omega) | simpa using h_)
   obtain rfl := k81_openM hM23
   have HP23 := (Kd.R_seg HO_6.out (x19_1 : Int) od_ (by have h_ : (x19_1 : Int) < ((x6_1.length : Int) : Int) := od_; first | exact h_ | (have e_ := (Kd.R_reads' HO_6.out).1; omega) | simpa using h_) (seg := [.int .i64 (wrap64 (((rd_T81 x6_1 x19_1).f2) + t313))]) (j := 2) hcl23 hcc23 (show 3 ≤ 3 from by decide) (x' := (⟨(rd_T81 x6_1 x19_1).f0, (rd_T81 x6_1 x19_1).f1, wrap64 (((rd_T81 x6_1 x19_1).f2) + t313)⟩ : S81)) (k81_mkM _ _ _ (⟨(rd_T81 x6_1 x19_1).f0, (rd_T81 x6_1 x19_1).f1, wrap64 (((rd_T81 x6_1 x19_1).f2) + t313)⟩ : S81) ) (fun _ hk => hk)).1
   rw [← Ny314.out] at HP23
   have HQ23 := Aside0.mk HP23
   clear hcl23 hcc23 hfr23 hM23 HP23
   refine hK.out _ _ ⟨hHeld.1, hHeld.2.1, hHeld.2.2.1, hHeld.2.2.2.1, hHeld.2.2.2.2.1, hHeld.2.2.2.2.2⟩ (fun hHeld => ?_)
   clear hK K
   refine norm_ (a' := ?_) ?_ ?_
   rotate_left
   ·show Act.put _ (some 34) _ = _
    simp only [pz_]
    rfl
   refine pv_ 13 35 HT_.out ?_
   refine pv_ 14 36 HT_.out ?_
   refine pu_ 15 37 #[t_,t_,t_,t_,t_,t_,t_,t_,t_,t_,t_,t_,t_,t_,t_,t_,f_] HT_.out ?_
   refine last_ (i := 16) (N := none) #[t_,t_,t_,t_,t_,t_,t_,t_,t_,t_,t_,t_,t_,t_,t_,t_,t_] rfl rfl (one_of HT_.out (by kernel_rfl)) (by decide) (fun K hK => ?_)
   refine skip_ (w1 := ?_) (by rfl) rfl ?_ ?_
   rotate_left
   ·go_simp
    rfl
   refine hK.out _ _ ?_
   clear hK K
   refine done_ (done_of HT_.out (by kernel_rfl)) ?_
   have p18 : 0 ≤ (x19_1 : Int) := od_
   have q18 : (x19_1 : Int) < ((x6_1.length : Int) : Int) := od_
   replace p18 := eq_true p18
   replace q18 := eq_true q18
   try go_wp2
   (try simp only [← hl6_1])
   go_roundg k1
   case measure => have := HK1.out; omega
   case rel => exact ⟨(y314), (wrap64 (x19_1 + 1)), rs_, H', ⟨by have := HK1.out; omega⟩, ⟨by (try simp only [hl6_1]); (with_reducible repeat (first | apply Kd.R_alloc | apply Kd.R_drewN | apply Kd.R_drew)); exact HQ23.out⟩, ⟨r3_ HB.out GB17.out⟩⟩
def spec_l01Floor.f (a0 : Int) (a1 : Int) : Option (Int) := if a1 < 0 then (if (wrap64 (-a1)) = 0 then (none) else (if (Int.tmod (wrap64 (-a0)) (wrap64 (-a1))) < 0 then (some (wrap64 ((wrap64 (Int.tdiv (wrap64 (-a0)) (wrap64 (-a1)))) - 1))) else (some (wrap64 (Int.tdiv (wrap64 (-a0)) (wrap64 (-a1))))))) else (if a1 = 0 then (none) else (if (Int.tmod a0 a1) < 0 then (some (wrap64 ((wrap64 (Int.tdiv a0 a1)) - 1))) else (some (wrap64 (Int.tdiv a0 a1)))))
set_option maxHeartbeats 8000000 in
set_option maxRecDepth 100000 in
theorem spec_l01Floor.calls (a0 : Int) (a1 : Int) (r : Int) (w : World) (h : spec_l01Floor.f a0 a1 = some r) :
    Calls Try.prog 208 #[.int .i64 a0, .int .i64 a1] w fun e w' => e = .returned (.int .i64 r) ∧ Drawn0 w w' := by
  have H : (if a1 < 0 then (if (wrap64 (-a1)) = 0 then (none) else (if (Int.tmod (wrap64 (-a0)) (wrap64 (-a1))) < 0 then (some (wrap64 ((wrap64 (Int.tdiv (wrap64 (-a0)) (wrap64 (-a1)))) - 1))) else (some (wrap64 (Int.tdiv (wrap64 (-a0)) (wrap64 (-a1))))))) else (if a1 = 0 then (none) else (if (Int.tmod a0 a1) < 0 then (some (wrap64 ((wrap64 (Int.tdiv a0 a1)) - 1))) else (some (wrap64 (Int.tdiv a0 a1)))))) = some r := h
  clear h
  by_cases c3 : a1 < 0
  · rw [if_pos c3] at H
    have c3b0 := decide_eq_true c3
    clear c3
    by_cases c4 : (wrap64 (-a1)) = 0
    · rw [if_pos c4] at H
      exact absurd H (by simp)
    · rw [if_neg c4] at H
      have c4b0 := beq_eq_false_iff_ne.mpr c4
      have c4b1 := bne_iff_ne.mpr c4
      by_cases c5 : (Int.tmod (wrap64 (-a0)) (wrap64 (-a1))) < 0
      · rw [if_pos c5] at H
        have c5b0 := decide_eq_true c5
        clear c5
        obtain rfl := Option.some.inj H
        go_enter Try.func208, Try.ntmps208
        go_wp2
        go_ret
        exact ⟨by first | rfl | (simp; done) | (simp [*]; done), by repeat (first | exact Drawn0.refl _ | apply Drawn0.step)⟩
      · rw [if_neg c5] at H
        have c5b0 := decide_eq_false c5
        clear c5
        obtain rfl := Option.some.inj H
        go_enter Try.func208, Try.ntmps208
        go_wp2
        go_ret
        exact ⟨by first | rfl | (simp; done) | (simp [*]; done), by repeat (first | exact Drawn0.refl _ | apply Drawn0.step)⟩
  · rw [if_neg c3] at H
    have c3b0 := decide_eq_false c3
    clear c3
    by_cases c6 : a1 = 0
    · rw [if_pos c6] at H
      exact absurd H (by simp)
    · rw [if_neg c6] at H
      have c6b0 := beq_eq_false_iff_ne.mpr c6
      have c6b1 := bne_iff_ne.mpr c6
      by_cases c7 : (Int.tmod a0 a1) < 0
      · rw [if_pos c7] at H
        have c7b0 := decide_eq_true c7
        clear c7
        obtain rfl := Option.some.inj H
        go_enter Try.func208, Try.ntmps208
        go_wp2
        go_ret
        exact ⟨by first | rfl | (simp; done) | (simp [*]; done), by repeat (first | exact Drawn0.refl _ | apply Drawn0.step)⟩
      · rw [if_neg c7] at H
        have c7b0 := decide_eq_false c7
        clear c7
        obtain rfl := Option.some.inj H
        go_enter Try.func208, Try.ntmps208
        go_wp2
        go_ret
        exact ⟨by first | rfl | (simp; done) | (simp [*]; done), by repeat (first | exact Drawn0.refl _ | apply Drawn0.step)⟩
def spec_l01Ceil.f (a0 : Int) (a1 : Int) : Option (Int) := (spec_l01Floor.f (wrap64 (-a0)) a1).bind fun t316 => (some (wrap64 (-t316)))
set_option maxHeartbeats 8000000 in
set_option maxRecDepth 100000 in
theorem spec_l01Ceil.calls (a0 : Int) (a1 : Int) (r : Int) (w : World) (h : spec_l01Ceil.f a0 a1 = some r) :
    Calls Try.prog 149 #[.int .i64 a0, .int .i64 a1] w fun e w' => e = .returned (.int .i64 r) ∧ Drawn0 w w' := by
  have H : ((spec_l01Floor.f (wrap64 (-a0)) a1).bind fun t316 => (some (wrap64 (-t316)))) = some r := h
  clear h
  replace H := Option.bind_eq_some_iff.mp H
  obtain ⟨t316, A30, H⟩ := H
  try dsimp only at H
  have A3 := Aside0.mk A30
  clear A30
  obtain rfl := Option.some.inj H
  go_enter Try.func149, Try.ntmps149
  go_wp2_with (first | ((with_reducible refine gate_callee (f := 208) rfl ?_); refine goesL_ (some 8) rfl rfl Try.func208 (by kernel_rfl) rfl #[.int .i64 (wrap64 (-a0)), .int .i64 a1] rfl ag_ ?_; (with_reducible refine (spec_l01Floor.calls (wrap64 (-a0)) a1 t316 _ A3.out).mono ?_); rintro e w' ⟨rfl, ⟨nd, rfl⟩⟩; refine ⟨_, rfl, ?_⟩))
  go_ret
  exact ⟨by first | rfl | (simp; done) | (simp [*]; done), by repeat (first | exact Drawn0.refl _ | apply Drawn0.step)⟩
def spec_WidenTable.l0 : Nat → Int → List (S81) → Int → Option ((List (S81)) × Int)
 | 0, _, _, _ => none
 | k + 1, x1, x6, x7 => if x7 < (x6.length : Int) then (if 0 ≤ x7 then ((spec_l01Ceil.f (wrap64 (((rd_T81 x6 x7).f2) * x1)) 100).bind fun t327 => (if (wrap64 (((rd_T81 x6 x7).f2) + t327)) > 10000 then (some (([] : List (S81)), 3)) else (spec_WidenTable.l0 k x1 (x6.set (x7 : Int).toNat (⟨(rd_T81 x6 x7).f0, (rd_T81 x6 x7).f1, wrap64 (((rd_T81 x6 x7).f2) + t327)⟩ : S81)) (wrap64 (x7 + 1))))) else (none)) else (some (x6, 0))
def spec_WidenTable.f (k : Nat) (l0 : List (S81)) (a1 : Int) : Option ((List (S81)) × Int) := (spec_IsTable.f k l0).bind fun t317 => (if t317 = true then ((spec_l01In.f a1 0 100).bind fun t318 => (if t318 = true then ((some (([] : List (S81)) : List (S81))).bind fun y319 => (if y319.length + l0.length < 5864062014805 then (spec_WidenTable.l0 k a1 (y319 ++ l0) 0) else (none))) else (some (([] : List (S81)), 2)))) else (some (([] : List (S81)), 1)))
def spec_WidenTable.T9 : Bool × List (List Nat × List Nat) := (true, [([], []), ([], []), ([], []), ([], []), ([2, 3], [2, 3]), ([4], [4]), ([5], [5]), ([], []), ([], []), ([7, 8], [7, 8]), ([9], [9]), ([10], [10]), ([], []), ([11, 12], [11, 12]), ([13], [13]), ([6, 14], [6, 14]), ([0, 1, 0, 1, 2, 3, 4, 5, 6, 7, 8, 9, 10, 11, 12, 13, 14, 15], [0, 1]), ([16, 0, 1, 2, 3, 4, 5, 6, 7, 8, 9, 10, 11, 12, 13, 14, 15], [16]), ([17, 15, 14, 0, 1, 2, 3, 4, 5, 6, 7, 8, 9, 10, 11, 12, 13, 14, 15], [15, 17])])
def spec_WidenTable.B9 : List Nat := [0, 0, 0, 0, 12, 28, 60, 0, 0, 384, 896, 1920, 0, 8064, 16256, 32764, 65535, 131071, 262143]
theorem spec_WidenTable.tab9 : rtab .any (opsOf Try.f48 9) = spec_WidenTable.T9 := by kernel_rfl
theorem spec_WidenTable.bits9 : waitsOk spec_WidenTable.T9.2 spec_WidenTable.B9 = true := by kernel_rfl
set_option maxHeartbeats 8000000 in
set_option maxRecDepth 100000 in
theorem spec_WidenTable.calls (k : Nat) (A0 : Option Addr) (c0 : Nat) (l0 : List (S81)) (a1 : Int) (r1 : List (S81)) (r2 : Int) (w : World) (hr0 : Kd.C k81 w A0 l0.length l0) (hc0 : l0.length ≤ c0) (h : spec_WidenTable.f k l0 a1 = some (r1, r2)) :
  Calls Try.prog 48 #[.slice A0 l0.length c0, .int .i64 a1] w fun e w' => ∃ v0_ : Value, e = .returned (.tuple #[v0_, .int .i64 r2]) ∧ Kd.R k81 81 w' w.heap.size (fun _ => True) v0_ r1 ∧ Below w.heap.size w w' := by
 have HR0 := Aside0.mk hr0
 have HC0 := Aside0.mk hc0
 clear hr0 hc0
 have HB := Aside0.mk (Below.refl w.heap.size w)
 have H : ((spec_IsTable.f k l0).bind fun t317 => (if t317 = true then ((spec_l01In.f a1 0 100).bind fun t318 => (if t318 = true then ((some (([] : List (S81)) : List (S81))).bind fun y319 => (if y319.length + l0.length < 5864062014805 then (spec_WidenTable.l0 k a1 (y319 ++ l0) 0) else (none))) else (some (([] : List (S81)), 2)))) else (some (([] : List (S81)), 1)))) = some (r1, r2) := h
 clear h
 replace H := Option.bind_eq_some_iff.mp H
 obtain ⟨t317, A30, H⟩ := H
 try dsimp only at H
 have A3 := Aside0.mk A30
 clear A30
 by_cases c4 : t317 = true
 case neg =>
  replace c4 := Bool.eq_false_iff.mpr c4
  subst c4
  rw [if_neg (show ¬ (false = true) by decide)] at H
  simp only [Option.some.injEq, Prod.mk.injEq] at H
  obtain ⟨rfl, rfl⟩ := H
  go_enter Try.func48, Try.ntmps48
  go_wp2_with (first | ((with_reducible refine gate_callee (f := 147) rfl ?_); refine goesL_ (some 9) rfl rfl Try.func147 (by kernel_rfl) rfl #[.slice A0 l0.length c0] rfl ag_ ?_; (with_reducible refine (spec_IsTable.calls k _ _ l0 false _ ?side1 ?side2 A3.out).mono ?_); (case side1 => exact r9_ HR0.out); (case side2 => exact HC0.out); rintro e w26 ⟨rfl, hb⟩; refine ⟨_, rfl, ?_⟩; replace HB := Aside0.mk (below_step (bl_ HB.out) hb); (try clear hb); (try clear hb2); (try clear hk); (try clear hi)))
  go_ret2
  exact ⟨_, re_, by first | exact Kd.R_nil _ _ _ _ _ | exact Kd.N_nil _ _ _ _ _ | exact Kd.V_nil _ _ _ _ _ | exact Kd.Q_nil _ _ _ _ _ | exact Kd.S_nil _ _ _ _ _, bl_ HB.out⟩


 subst c4
 rw [if_pos rfl] at H
 replace H := Option.bind_eq_some_iff.mp H
 obtain ⟨t318, A50, H⟩ := H
 try dsimp only at H
 have A5 := Aside0.mk A50
 clear A50
 by_cases c6 : t318 = true
 case neg =>
  replace c6 := Bool.eq_false_iff.mpr c6
  subst c6
  rw [if_neg (show ¬ (false = true) by decide)] at H
  simp only [Option.some.injEq, Prod.mk.injEq] at H
  obtain ⟨rfl, rfl⟩ := H
  go_enter Try.func48, Try.ntmps48
  go_wp2_with (first | ((with_reducible refine gate_callee (f := 147) rfl ?_); refine goesL_ (some 9) rfl rfl Try.func147 (by kernel_rfl) rfl #[.slice A0 l0.length c0] rfl ag_ ?_; (with_reducible refine (spec_IsTable.calls k _ _ l0 true _ ?side1 ?side2 A3.out).mono ?_); (case side1 => exact r9_ HR0.out); (case side2 => exact HC0.out); rintro e w25 ⟨rfl, hb⟩; refine ⟨_, rfl, ?_⟩; replace HB := Aside0.mk (below_step (bl_ HB.out) hb); (try clear hb); (try clear hb2); (try clear hk); (try clear hi)) | ((with_reducible refine gate_callee (f := 148) rfl ?_); refine goesL_ (some 12) rfl rfl Try.func148 (by kernel_rfl) rfl #[.int .i64 a1, .int .i64 0, .int .i64 100] rfl ag_ ?_; (with_reducible refine (spec_l01In.calls a1 0 100 false _ A5.out).mono ?_); rintro e w' ⟨rfl, ⟨nd, rfl⟩⟩; refine ⟨_, rfl, ?_⟩))
  go_ret2
  exact ⟨_, re_, by first | exact Kd.R_nil _ _ _ _ _ | exact Kd.N_nil _ _ _ _ _ | exact Kd.V_nil _ _ _ _ _ | exact Kd.Q_nil _ _ _ _ _ | exact Kd.S_nil _ _ _ _ _, bl_ HB.out⟩
 subst c6
 rw [if_pos rfl] at H
 obtain ⟨y319, hy319⟩ : ∃ y_ : List (S81), y_ = (([] : List (S81))) := ⟨_, rfl⟩
 replace H : (if y319.length + l0.length < 5864062014805 then (spec_WidenTable.l0 k a1 (y319 ++ l0) 0) else (none)) = some (r1, r2) := by first | (rw [hy319]; with_reducible exact H) | (have H2_ := (Option.bind_some _ _).symm.trans H; rw [hy319]; with_reducible exact H2_) | (have H2_ := (Option.bind_some _ _).symm.trans H; with_reducible exact H2_) | with_reducible exact H | (rw [hy319]; exact H) | exact H
 have Ny319 := Aside0.mk hy319
 clear hy319
 by_cases c7 : y319.length + l0.length < 5864062014805
 case neg =>
  rw [if_neg c7] at H
  exact absurd H (by simp)
 rw [if_pos c7] at H
 have LMc7 := Aside0.mk c7
 clear c7
 obtain ⟨y322, hy322⟩ : ∃ y_ : List (S81), y_ = (y319 ++ l0) := ⟨_, rfl⟩
 replace H : (spec_WidenTable.l0 k a1 y322 0) = some (r1, r2) := by first | (rw [hy322]; with_reducible exact H) | (have H2_ := (Option.bind_some _ _).symm.trans H; rw [hy322]; with_reducible exact H2_) | (have H2_ := (Option.bind_some _ _).symm.trans H; with_reducible exact H2_) | with_reducible exact H | (rw [hy322]; exact H) | exact H
 have Ny322 := Aside0.mk hy322
 clear hy322
 have H' := Aside0.mk H
 clear H
 go_enter Try.func48, Try.ntmps48
 go_wp2_with (first | ((with_reducible refine gate_callee (f := 147) rfl ?_); refine goesL_ (some 9) rfl rfl Try.func147 (by kernel_rfl) rfl #[.slice A0 l0.length c0] rfl ag_ ?_; (with_reducible refine (spec_IsTable.calls k _ _ l0 true _ ?side1 ?side2 A3.out).mono ?_); (case side1 => exact r9_ HR0.out); (case side2 => exact HC0.out); rintro e w8 ⟨rfl, hb⟩; refine ⟨_, rfl, ?_⟩; replace HB := Aside0.mk (below_step (bl_ HB.out) hb); (try clear hb); (try clear hb2); (try clear hk); (try clear hi)) | ((with_reducible refine gate_callee (f := 148) rfl ?_); refine goesL_ (some 12) rfl rfl Try.func148 (by kernel_rfl) rfl #[.int .i64 a1, .int .i64 0, .int .i64 100] rfl ag_ ?_; (with_reducible refine (spec_l01In.calls a1 0 100 true _ A5.out).mono ?_); rintro e w' ⟨rfl, ⟨nd, rfl⟩⟩; refine ⟨_, rfl, ?_⟩) | ((with_reducible refine gate_dst (N := 14) rfl ?_); refine Kd.R_lit k81 _ 81 ?hg (N := 14) ?hd (xs := ([] : List (S81))) (inner := []) (ok := fun _ => True) (okp := fun _ => True) ?hr ?hp (fun _ hk => hk) trivial (Below.refl _ _) (Nat.le_refl _) (by simp) ?_; (case hd => rfl); (case hg => rfl); (case hr => first | (go_simp; done) | (go_simp; rfl)); (case hp => exact (Reps.none _ _)); intro v320 w9 ho10 hb hg_ hnew_; clear hg_ hnew_; (first | rw [← Ny319.out] at ho10 | (simp only [Int.reduceToNat] at ho10; rw [← Ny319.out] at ho10)); have HO321 := Aside0.mk (Kd.R_lower ho10 (below_size (bl_ HB.out))); replace HB := Aside0.mk (below_step (bl_ HB.out) hb); clear hb ho10) | ((with_reducible refine gate_builtin (b := .append) (xs := #[.tmp 14, .tmp 15]) rfl ?_); at_builtin; refine Kd.R_append_rows k81 (w0 := w) w.heap.size rfl (.tmp 14) (.tmp 15) 29 81 (.agg #[(.int .i64 0), (.int .i64 0), (.int .i64 0)]) 24 rfl Try.underlying29 info81 rfl (by decide) (by omega) v320 y319 l0 _ _ _ (fun _ => True) (fun _ => False) rfl rfl ?aO ?aR (fun _ _ h => h) (fun _ h => h.elim) ?aF ?aB ?aS ?aL ?_; (case aR => exact r7_ HR0.out HB.out); (case aB => exact (bl_ HB.out)); (case aF => exact (fun _ _ => trivial)); (case aO => exact (rk_ HO321.out)); (case aS => exact (below_size (bl_ HB.out))); (case aL => have := LMc7.out; omega); intro v323 w11 ho hb hg hat; rw [← Ny322.out] at ho; have n0_ := Aside0.mk (hb); have n1_ := Aside0.mk (ho); clear HB; clear HO321; have HB := n0_; have HO324 := n1_; clear n0_ n1_; clear ho hb hg hat))
 go_loopg [7] k (fun kq v7 w' => ∃ (x6_1 : List (S81)) (x7_1 : Int), v7 = .int .i64 x7_1 ∧ Aside0 (spec_WidenTable.l0 kq a1 x6_1 x7_1 = some (r1, r2)) ∧ Aside0 (kq ≤ k) ∧ Aside0 (Kd.R k81 81 w' w.heap.size (fun _ => True) v323 x6_1) ∧ Aside0 (Below w.heap.size w w'))
 case atStart => exact ⟨(y322), (0), rs_, H', ⟨Nat.le_refl _⟩, ⟨rk_ HO324.out⟩, ⟨bl_ HB.out⟩⟩
 case round =>
  clear H'
  try clear c1
  try clear p2
  try clear c4
  try clear c6
  try clear c7
  obtain ⟨x6_1, x7_1, rfl, HA, HK1, HO_6, HB⟩ := hrel
  cases gk with
  | zero => exact absurd HA.out (by simp [spec_WidenTable.l0])
  | succ k1 =>
   have H := HA.out
   clear HA
   simp only [spec_WidenTable.l0] at H
   by_cases c12 : x7_1 < (x6_1.length : Int)
   case neg =>
    rw [if_neg c12] at H
    have c12b0 := decide_eq_false c12
    clear c12
    simp only [Option.some.injEq, Prod.mk.injEq] at H
    obtain ⟨rfl, rfl⟩ := H
    obtain ⟨Ao24, co24, eo24⟩ := Kd.R_slice HO_6.out
    subst eo24
    go_wp2
    go_ret2
    exact ⟨_, re_, rk_ HO_6.out, bl_ HB.out⟩
   rw [if_pos c12] at H
   have c12b0 := decide_eq_true c12
   clear c12
   by_cases c13 : 0 ≤ x7_1
   case neg =>
    rw [if_neg c13] at H
    exact absurd H (by simp)
   rw [if_pos c13] at H
   have c13b0 := decide_eq_true c13
   clear c13
   replace H := Option.bind_eq_some_iff.mp H
   obtain ⟨t327, A140, H⟩ := H
   try dsimp only at H
   have A14 := Aside0.mk A140
   clear A140
   obtain ⟨y328, hy328⟩ : ∃ y_ : List (S81), y_ = (x6_1.set (x7_1 : Int).toNat (⟨(rd_T81 x6_1 x7_1).f0, (rd_T81 x6_1 x7_1).f1, wrap64 (((rd_T81 x6_1 x7_1).f2) + t327)⟩ : S81)) := ⟨_, rfl⟩
   replace H : (if (wrap64 (((rd_T81 x6_1 x7_1).f2) + t327)) > 10000 then (some (([] : List (S81)), 3)) else (spec_WidenTable.l0 k1 a1 y328 (wrap64 (x7_1 + 1)))) = some (r1, r2) := by first | (rw [hy328]; with_reducible exact H) | (have H2_ := (Option.bind_some _ _).symm.trans H; rw [hy328]; with_reducible exact H2_) | (have H2_ := (Option.bind_some _ _).symm.trans H; with_reducible exact H2_) | with_reducible exact H | (rw [hy328]; exact H) | exact H
   have Ny328 := Aside0.mk hy328
   clear hy328
   by_cases c17 : (wrap64 (((rd_T81 x6_1 x7_1).f2) + t327)) > 10000
   case pos =>
    rw [if_pos c17] at H
    have c17b0 : decide (10000 < (wrap64 (((rd_T81 x6_1 x7_1).f2) + t327))) = true := decide_eq_true c17
    clear c17
    simp only [Option.some.injEq, Prod.mk.injEq] at H
    obtain ⟨rfl, rfl⟩ := H
    obtain ⟨Ao18, co18, eo18⟩ := Kd.R_slice HO_6.out
    subst eo18
    try go_wp2
    replace HO_6 := Aside0.mk (Kd.R_drew HO_6.out)
    replace HB := Aside0.mk (below_drew1 HB.out)
    have p325 : 0 ≤ (x7_1 : Int) := od_
    have q325 : x7_1 < (x6_1.length : Int) := od_
    obtain ⟨ad325, e325, hx325_0, hx325_1, hx325_2⟩ := at_T81 (Kd.R_reads' HO_6.out).2.2 x7_1 p325 q325
    cases e325
    replace p325 := eq_true p325
    replace q325 := eq_true q325
    have p326 : 0 ≤ (x7_1 : Int) := od_
    have q326 : x7_1 < (x6_1.length : Int) := od_
    obtain ⟨ad326, e326, hx326_0, hx326_1, hx326_2⟩ := at_T81 (Kd.R_reads' HO_6.out).2.2 x7_1 p326 q326
    obtain rfl : ad325 = ad326 := (by injection e326)
    replace p326 := eq_true p326
    replace q326 := eq_true q326
    refine start_ (n := 19) (S := fun w' => w'.cell? (ad325.add ((x7_1).toNat * 3)) = some (.int .i64 ((rd_T81 x6_1 x7_1).f0)) ∧ w'.cell? ⟨(ad325.add ((x7_1).toNat * 3)).block, (ad325.add ((x7_1).toNat * 3)).off + 1, none⟩ = some (.int .i64 ((rd_T81 x6_1 x7_1).f1)) ∧ w'.cell? ⟨(ad325.add ((x7_1).toNat * 3)).block, (ad325.add ((x7_1).toNat * 3)).off + 2, none⟩ = some (.int .i64 ((rd_T81 x6_1 x7_1).f2)) ∧ w'.cell? (ad325.add ((x7_1).toNat * 3)) = some (.int .i64 ((rd_T81 x6_1 x7_1).f0)) ∧ w'.cell? ⟨(ad325.add ((x7_1).toNat * 3)).block, (ad325.add ((x7_1).toNat * 3)).off + 1, none⟩ = some (.int .i64 ((rd_T81 x6_1 x7_1).f1)) ∧ w'.cell? ⟨(ad325.add ((x7_1).toNat * 3)).block, (ad325.add ((x7_1).toNat * 3)).off + 2, none⟩ = some (.int .i64 ((rd_T81 x6_1 x7_1).f2))) (ds := [18]) #[f_,f_,f_,f_,f_,f_,f_,f_,f_,f_,f_,f_,f_,f_,f_,f_,f_,f_,f_] (by kernel_rfl) rfl rfl ⟨hx325_0, hx325_1, hx325_2, hx326_0, hx326_1, hx326_2⟩ (fun hHeld => ?_); refine with_tabW spec_WidenTable.tab9 spec_WidenTable.bits9 (fun HT_ HW_ => ?_)
    generalize wr.drew = w19 at HO_6 HB hx325_0 hx325_1 hx325_2 hx326_0 hx326_1 hx326_2 hHeld ⊢
    refine pv_ 0 23 HT_.out ?_
    refine pv_ 1 24 HT_.out ?_
    refine pv_ 2 25 HT_.out ?_
    refine pv_ 3 26 HT_.out ?_
    refine pv_ 4 27 HT_.out ?_
    refine pv_ 5 28 HT_.out ?_
    refine pv_ 7 30 HT_.out ?_
    refine pv_ 8 31 HT_.out ?_
    refine pv_ 9 32 HT_.out ?_
    refine pv_ 10 33 HT_.out ?_
    refine pv_ 12 35 HT_.out ?_
    refine tv6_ 6 29 HT_.out HW_.out hHeld ?_
    refine tv6_ 11 34 HT_.out HW_.out hHeld ?_
    refine pu_ 13 36 #[t_,t_,t_,t_,t_,t_,t_,t_,t_,t_,t_,t_,t_,t_,f_,f_,f_,f_,f_] HT_.out ?_
    refine one_ (i := 14) (N := some 37) #[t_,t_,t_,t_,t_,t_,t_,t_,t_,t_,t_,t_,t_,t_,t_,f_,f_,f_,f_] rfl rfl (one_of HT_.out (by kernel_rfl)) (by decide) (fun K hK => ?_)
    refine goes_ Try.func149 (by kernel_rfl) rfl #[.int .i64 (wrap64 (((rd_T81 x6_1 x7_1).f2) * a1)), .int .i64 100] (by rfl) rfl rfl ag_ ?_
    with_reducible refine (spec_l01Ceil.calls (wrap64 (((rd_T81 x6_1 x7_1).f2) * a1)) 100 t327 _ A14.out).mono ?_
    rintro e w' ⟨rfl, ⟨nd, rfl⟩⟩
    refine ⟨_, rfl, ?_⟩
    have p15 : 0 ≤ (x7_1 : Int) := od_
    have q15 : (x7_1 : Int) < ((x6_1.length : Int) : Int) := od_
    obtain ⟨go15, co15, eo15, gb15, gl15, cl15, HG15⟩ := Kd.R_form HO_6.out (by omega)
    (first | cases eo15 | (injection eo15 with ea_ en_ ec_; (first | subst ea_ | (injection ea_ with ea_; subst ea_)); subst ec_; clear en_))
    have GB15 := Aside0.mk gb15
    have GG15 := Aside0.mk HG15
    clear gb15 gl15 HG15
    (first | simp only [add_plain] at hx325_0 | skip)
    (first | simp only [add_plain] at hx325_1 | skip)
    (first | simp only [add_plain] at hx325_2 | skip)
    (first | simp only [add_plain] at hx326_0 | skip)
    (first | simp only [add_plain] at hx326_1 | skip)
    (first | simp only [add_plain] at hx326_2 | skip)
    obtain ⟨ce15, hcl15, hM15, hcc15, hfr15⟩ := Kd.R_elem HO_6.out z81 (x7_1 : Int) p15 q15
    obtain rfl := k81_openM hM15
    have hx15_0 : World.cell? _ ⟨go15, (x7_1 : Int).toNat * 3, none⟩ = some (.int .i64 ((rd_T81 x6_1 x7_1).f0)) := hcc15 0 _ rfl
    have hx15_1 : World.cell? _ ⟨go15, (x7_1 : Int).toNat * 3 + 1, none⟩ = some (.int .i64 ((rd_T81 x6_1 x7_1).f1)) := hcc15 1 _ rfl
    have hx15_2 : World.cell? _ ⟨go15, (x7_1 : Int).toNat * 3 + 2, none⟩ = some (.int .i64 ((rd_T81 x6_1 x7_1).f2)) := hcc15 2 _ rfl
    have hf15_0 : World.frozen? _ ⟨go15, (x7_1 : Int).toNat * 3, none⟩ = false := hfr15 0
    have hf15_1 : World.frozen? _ ⟨go15, (x7_1 : Int).toNat * 3 + 1, none⟩ = false := hfr15 1
    have hf15_2 : World.frozen? _ ⟨go15, (x7_1 : Int).toNat * 3 + 2, none⟩ = false := hfr15 2
    clear hcl15 hcc15 hfr15 hM15
    replace p15 := eq_true p15
    replace q15 := eq_true q15
    obtain ⟨ce20, hcl20, hM20, hcc20, hfr20⟩ := Kd.R_elem HO_6.out z81 (x7_1 : Int) od_ (by have h_ : (x7_1 : Int) < ((x6_1.length : Int) : Int) := od_; first | exact h_ | (have e_ := (Kd.R_reads' HO_6.out).1; omega) | simpa using h_)
    obtain rfl := k81_openM hM20
    have HP20 := (Kd.R_seg HO_6.out (x7_1 : Int) od_ (by have h_ : (x7_1 : Int) < ((x6_1.length : Int) : Int) := od_; first | exact h_ | (have e_ := (Kd.R_reads' HO_6.out).1; omega) | simpa using h_) (seg := [.int .i64 (wrap64 (((rd_T81 x6_1 x7_1).f2) + t327))]) (j := 2) hcl20 hcc20 (show 3 ≤ 3 from by decide) (x' := (⟨(rd_T81 x6_1 x7_1).f0, (rd_T81 x6_1 x7_1).f1, wrap64 (((rd_T81 x6_1 x7_1).f2) + t327)⟩ : S81)) (k81_mkM _ _ _ (⟨(rd_T81 x6_1 x7_1).f0, (rd_T81 x6_1 x7_1).f1, wrap64 (((rd_T81 x6_1 x7_1).f2) + t327)⟩ : S81) ) (fun _ hk => hk)).1
    rw [← Ny328.out] at HP20
    have HQ20 := Aside0.mk HP20
    clear hcl20 hcc20 hfr20 hM20 HP20
    refine hK.out _ _ ⟨hHeld.1, hHeld.2.1, hHeld.2.2.1, hHeld.2.2.2.1, hHeld.2.2.2.2.1, hHeld.2.2.2.2.2⟩ (fun hHeld => ?_)
    clear hK K
    refine norm_ (a' := ?_) ?_ ?_
    rotate_left
    ·show Act.put _ (some 37) _ = _
     simp only [pz_]
     rfl
    refine pv_ 15 38 HT_.out ?_
    refine pv_ 16 39 HT_.out ?_
    refine pu_ 17 40 #[t_,t_,t_,t_,t_,t_,t_,t_,t_,t_,t_,t_,t_,t_,t_,t_,t_,t_,f_] HT_.out ?_
    refine last_ (i := 18) (N := none) #[t_,t_,t_,t_,t_,t_,t_,t_,t_,t_,t_,t_,t_,t_,t_,t_,t_,t_,t_] rfl rfl (one_of HT_.out (by kernel_rfl)) (by decide) (fun K hK => ?_)
    refine skip_ (w1 := ?_) (by rfl) rfl ?_ ?_
    rotate_left
    ·go_simp
     rfl
    refine hK.out _ _ ?_
    clear hK K
    refine done_ (done_of HT_.out (by kernel_rfl)) ?_
    have p16 : 0 ≤ (x7_1 : Int) := od_
    have q16 : (x7_1 : Int) < ((x6_1.length : Int) : Int) := od_
    replace p16 := eq_true p16
    replace q16 := eq_true q16
    try go_wp2
    go_ret2
    exact ⟨_, re_, by first | exact Kd.R_nil _ _ _ _ _ | exact Kd.N_nil _ _ _ _ _ | exact Kd.V_nil _ _ _ _ _ | exact Kd.Q_nil _ _ _ _ _ | exact Kd.S_nil _ _ _ _ _, r3_ HB.out GB15.out⟩
   rw [if_neg c17] at H
   have c17b0 : decide (10000 < (wrap64 (((rd_T81 x6_1 x7_1).f2) + t327))) = false := decide_eq_false c17
   clear c17
   have H' := Aside0.mk H
   clear H
   obtain ⟨Ao21, co21, eo21⟩ := Kd.R_slice HO_6.out
   subst eo21
   try go_wp2
   replace HO_6 := Aside0.mk (Kd.R_drew HO_6.out)
   replace HB := Aside0.mk (below_drew1 HB.out)
   have p325 : 0 ≤ (x7_1 : Int) := od_
   have q325 : x7_1 < (x6_1.length : Int) := od_
   obtain ⟨ad325, e325, hx325_0, hx325_1, hx325_2⟩ := at_T81 (Kd.R_reads' HO_6.out).2.2 x7_1 p325 q325
   cases e325
   replace p325 := eq_true p325
   replace q325 := eq_true q325
   have p326 : 0 ≤ (x7_1 : Int) := od_
   have q326 : x7_1 < (x6_1.length : Int) := od_
   obtain ⟨ad326, e326, hx326_0, hx326_1, hx326_2⟩ := at_T81 (Kd.R_reads' HO_6.out).2.2 x7_1 p326 q326
   obtain rfl : ad325 = ad326 := (by injection e326)
   replace p326 := eq_true p326
   replace q326 := eq_true q326
   refine start_ (n := 19) (S := fun w' => w'.cell? (ad325.add ((x7_1).toNat * 3)) = some (.int .i64 ((rd_T81 x6_1 x7_1).f0)) ∧ w'.cell? ⟨(ad325.add ((x7_1).toNat * 3)).block, (ad325.add ((x7_1).toNat * 3)).off + 1, none⟩ = some (.int .i64 ((rd_T81 x6_1 x7_1).f1)) ∧ w'.cell? ⟨(ad325.add ((x7_1).toNat * 3)).block, (ad325.add ((x7_1).toNat * 3)).off + 2, none⟩ = some (.int .i64 ((rd_T81 x6_1 x7_1).f2)) ∧ w'.cell? (ad325.add ((x7_1).toNat * 3)) = some (.int .i64 ((rd_T81 x6_1 x7_1).f0)) ∧ w'.cell? ⟨(ad325.add ((x7_1).toNat * 3)).block, (ad325.add ((x7_1).toNat * 3)).off + 1, none⟩ = some (.int .i64 ((rd_T81 x6_1 x7_1).f1)) ∧ w'.cell? ⟨(ad325.add ((x7_1).toNat * 3)).block, (ad325.add ((x7_1).toNat * 3)).off + 2, none⟩ = some (.int .i64 ((rd_T81 x6_1 x7_1).f2))) (ds := [18]) #[f_,f_,f_,f_,f_,f_,f_,f_,f_,f_,f_,f_,f_,f_,f_,f_,f_,f_,f_] (by kernel_rfl) rfl rfl ⟨hx325_0, hx325_1, hx325_2, hx326_0, hx326_1, hx326_2⟩ (fun hHeld => ?_); refine with_tabW spec_WidenTable.tab9 spec_WidenTable.bits9 (fun HT_ HW_ => ?_)
   generalize wr.drew = w22 at HO_6 HB hx325_0 hx325_1 hx325_2 hx326_0 hx326_1 hx326_2 hHeld ⊢
   refine pv_ 0 23 HT_.out ?_
   refine pv_ 1 24 HT_.out ?_
   refine pv_ 2 25 HT_.out ?_
   refine pv_ 3 26 HT_.out ?_
   refine pv_ 4 27 HT_.out ?_
   refine pv_ 5 28 HT_.out ?_
   refine pv_ 7 30 HT_.out ?_
   refine pv_ 8 31 HT_.out ?_
   refine pv_ 9 32 HT_.out ?_
   refine pv_ 10 33 HT_.out ?_
   refine pv_ 12 35 HT_.out ?_
   refine tv6_ 6 29 HT_.out HW_.out hHeld ?_
   refine tv6_ 11 34 HT_.out HW_.out hHeld ?_
   refine pu_ 13 36 #[t_,t_,t_,t_,t_,t_,t_,t_,t_,t_,t_,t_,t_,t_,f_,f_,f_,f_,f_] HT_.out ?_
   refine one_ (i := 14) (N := some 37) #[t_,t_,t_,t_,t_,t_,t_,t_,t_,t_,t_,t_,t_,t_,t_,f_,f_,f_,f_] rfl rfl (one_of HT_.out (by kernel_rfl)) (by decide) (fun K hK => ?_)
   refine goes_ Try.func149 (by kernel_rfl) rfl #[.int .i64 (wrap64 (((rd_T81 x6_1 x7_1).f2) * a1)), .int .i64 100] (by rfl) rfl rfl ag_ ?_
   with_reducible refine (spec_l01Ceil.calls (wrap64 (((rd_T81 x6_1 x7_1).f2) * a1)) 100 t327 _ A14.out).mono ?_
   rintro e w' ⟨rfl, ⟨nd, rfl⟩⟩
   refine ⟨_, rfl, ?_⟩
   have p15 : 0 ≤ (x7_1 : Int) := od_
   have q15 : (x7_1 : Int) < ((x6_1.length : Int) : Int) := od_
   obtain ⟨go15, co15, eo15, gb15, gl15, cl15, HG15⟩ := Kd.R_form HO_6.out (by omega)
   (first | cases eo15 | (injection eo15 with ea_ en_ ec_; (first | subst ea_ | (injection ea_ with ea_; subst ea_)); subst ec_; clear en_))
   have GB15 := Aside0.mk gb15
   have GG15 := Aside0.mk HG15
   clear gb15 gl15 HG15
   (first | simp only [add_plain] at hx325_0 | skip)
   (first | simp only [add_plain] at hx325_1 | skip)
   (first | simp only [add_plain] at hx325_2 | skip)
   (first | simp only [add_plain] at hx326_0 | skip)
   (first | simp only [add_plain] at hx326_1 | skip)
   (first | simp only [add_plain] at hx326_2 | skip)
   obtain ⟨ce15, hcl15, hM15, hcc15, hfr15⟩ := Kd.R_elem HO_6.out z81 (x7_1 : Int) p15 q15
   obtain rfl := k81_openM hM15
   have hx15_0 : World.cell? _ ⟨go15, (x7_1 : Int).toNat * 3, none⟩ = some (.int .i64 ((rd_T81 x6_1 x7_1).f0)) := hcc15 0 _ rfl
   have hx15_1 : World.cell? _ ⟨go15, (x7_1 : Int).toNat * 3 + 1, none⟩ = some (.int .i64 ((rd_T81 x6_1 x7_1).f1)) := hcc15 1 _ rfl
   have hx15_2 : World.cell? _ ⟨go15, (x7_1 : Int).toNat * 3 + 2, none⟩ = some (.int .i64 ((rd_T81 x6_1 x7_1).f2)) := hcc15 2 _ rfl
   have hf15_0 : World.frozen? _ ⟨go15, (x7_1 : Int).toNat * 3, none⟩ = false := hfr15 0
   have hf15_1 : World.frozen? _ ⟨go15, (x7_1 : Int).toNat * 3 + 1, none⟩ = false := hfr15 1
   have hf15_2 : World.frozen? _ ⟨go15, (x7_1 : Int).toNat * 3 + 2, none⟩ = false := hfr15 2
   clear hcl15 hcc15 hfr15 hM15
   replace p15 := eq_true p15
   replace q15 := eq_true q15
   obtain ⟨ce23, hcl23, hM23, hcc23, hfr23⟩ := Kd.R_elem HO_6.out z81 (x7_1 : Int) od_ (by have h_ : (x7_1 : Int) < ((x6_1.length : Int) : Int) := od_; first | exact h_ | (have e_ := (Kd.R_reads' HO_6.out).1; omega) | simpa using h_)
   obtain rfl := k81_openM hM23
   have HP23 := (Kd.R_seg HO_6.out (x7_1 : Int) od_ (by have h_ : (x7_1 : Int) < ((x6_1.length : Int) : Int) := od_; first | exact h_ | (have e_ := (Kd.R_reads' HO_6.out).1; omega) | simpa using h_) (seg := [.int .i64 (wrap64 (((rd_T81 x6_1 x7_1).f2) + t327))]) (j := 2) hcl23 hcc23 (show 3 ≤ 3 from by decide) (x' := (⟨(rd_T81 x6_1 x7_1).f0, (rd_T81 x6_1 x7_1).f1, wrap64 (((rd_T81 x6_1 x7_1).f2) + t327)⟩ : S81)) (k81_mkM _ _ _ (⟨(rd_T81 x6_1 x7_1).f0, (rd_T81 x6_1 x7_1).f1, wrap64 (((rd_T81 x6_1 x7_1).f2) + t327)⟩ : S81) ) (fun _ hk => hk)).1
   rw [← Ny328.out] at HP23
   have HQ23 := Aside0.mk HP23
   clear hcl23 hcc23 hfr23 hM23 HP23
   refine hK.out _ _ ⟨hHeld.1, hHeld.2.1, hHeld.2.2.1, hHeld.2.2.2.1, hHeld.2.2.2.2.1, hHeld.2.2.2.2.2⟩ (fun hHeld => ?_)
   clear hK K
   refine norm_ (a' := ?_) ?_ ?_
   rotate_left
   ·show Act.put _ (some 37) _ = _
    simp only [pz_]
    rfl
   refine pv_ 15 38 HT_.out ?_
   refine pv_ 16 39 HT_.out ?_
   refine pu_ 17 40 #[t_,t_,t_,t_,t_,t_,t_,t_,t_,t_,t_,t_,t_,t_,t_,t_,t_,t_,f_] HT_.out ?_
   refine last_ (i := 18) (N := none) #[t_,t_,t_,t_,t_,t_,t_,t_,t_,t_,t_,t_,t_,t_,t_,t_,t_,t_,t_] rfl rfl (one_of HT_.out (by kernel_rfl)) (by decide) (fun K hK => ?_)
   refine skip_ (w1 := ?_) (by rfl) rfl ?_ ?_
   rotate_left
   ·go_simp
    rfl
   refine hK.out _ _ ?_
   clear hK K
   refine done_ (done_of HT_.out (by kernel_rfl)) ?_
   have p16 : 0 ≤ (x7_1 : Int) := od_
   have q16 : (x7_1 : Int) < ((x6_1.length : Int) : Int) := od_
   replace p16 := eq_true p16
   replace q16 := eq_true q16
   try go_wp2
   go_roundg k1
   case measure => have := HK1.out; omega
   case rel => exact ⟨(y328), (wrap64 (x7_1 + 1)), rs_, H', ⟨by have := HK1.out; omega⟩, ⟨rk_ HQ23.out⟩, ⟨r3_ HB.out GB15.out⟩⟩
def spec_DrawMergeTables.f (k : Nat) (l0 : List Int) : Option ((List (S81)) × (List (S81))) := (spec_l01From.f k l0).bind fun bt330 => ((spec_l16Draw.f k bt330.1 bt330.2.1 bt330.2.2).bind fun bt334 => ((spec_l16Draw.f k bt330.1 bt334.2.1 bt334.2.2).bind fun bt339 => (some (bt334.1, bt339.1))))
set_option maxHeartbeats 8000000 in
set_option maxRecDepth 100000 in
theorem spec_DrawMergeTables.calls (k : Nat) (A0 : Option Addr) (c0 : Nat) (l0 : List Int) (r1 : List (S81)) (r2 : List (S81)) (w : World) (hr0 : Kd.C (Kd.int .u8) w A0 l0.length l0) (hc0 : l0.length ≤ c0) (h : spec_DrawMergeTables.f k l0 = some (r1, r2)) :
    Calls Try.prog 49 #[.slice A0 l0.length c0] w fun e w' => ∃ v0_ v1_ : Value, e = .returned (.tuple #[v0_, v1_]) ∧ Kd.R k81 81 w' w.heap.size (fun k_ => some k_ ≠ (v1_ : Value).ownBlock) v0_ r1 ∧ Kd.R k81 81 w' w.heap.size (fun k_ => some k_ ≠ (v0_ : Value).ownBlock) v1_ r2 ∧ Below w.heap.size w w' := by
  have HR0 := Aside0.mk hr0
  have HC0 := Aside0.mk hc0
  clear hr0 hc0
  have HB := Aside0.mk (Below.refl w.heap.size w)
  have H : ((spec_l01From.f k l0).bind fun bt330 => ((spec_l16Draw.f k bt330.1 bt330.2.1 bt330.2.2).bind fun bt334 => ((spec_l16Draw.f k bt330.1 bt334.2.1 bt334.2.2).bind fun bt339 => (some (bt334.1, bt339.1))))) = some (r1, r2) := h
  clear h
  replace H := Option.bind_eq_some_iff.mp H
  obtain ⟨⟨t330, t331, t332⟩, A20, H⟩ := H
  try dsimp only at H
  have A2 := Aside0.mk A20
  clear A20
  replace H := Option.bind_eq_some_iff.mp H
  obtain ⟨⟨t334, t337, t338⟩, A30, H⟩ := H
  try dsimp only at H
  have A3 := Aside0.mk A30
  clear A30
  replace H := Option.bind_eq_some_iff.mp H
  obtain ⟨⟨t339, t342, t343⟩, A40, H⟩ := H
  try dsimp only at H
  have A4 := Aside0.mk A40
  clear A40
  simp only [Option.some.injEq, Prod.mk.injEq] at H
  obtain ⟨rfl, rfl⟩ := H
  go_enter Try.func49, Try.ntmps49
  go_wp2_with (first | ((with_reducible refine gate_callee (f := 123) rfl ?_); refine goesL_ (some 7) rfl rfl Try.func123 (by kernel_rfl) rfl #[.slice A0 l0.length c0] rfl ag_ ?_; (with_reducible refine (spec_l01From.calls k _ _ l0 t330 t331 t332 w _ ?side1 ?side2 ?side3 A2.out).mono ?_); (case side1 => exact r15_ HB.out); (case side2 => exact HR0.out); (case side3 => exact HC0.out); rintro e w5 ⟨g333, rfl, hi, hb, hb2⟩; refine ⟨_, rfl, ?_⟩; replace HB := Aside0.mk (hb); have HI333 := Aside0.mk (hi); (try clear hb); (try clear hb2); (try clear hk); (try clear hi)) | ((with_reducible refine gate_callee (f := 144) rfl ?_); refine goesL_ (some 9) rfl rfl Try.func144 (by kernel_rfl) rfl #[.pointer (some ⟨g333, 0, none⟩)] rfl ag_ ?_; (with_reducible refine (spec_l16Draw.calls k g333 t330 t331 t332 t334 t337 t338 w _ ?side1 ?side2 A3.out).mono ?_); (case side1 => exact r0_ HI333.out); (case side2 => exact r1_ HB.out HI333.out); rintro e w6 ⟨v335, rfl, ho0, hi, hb, hk⟩; refine ⟨_, rfl, ?_⟩; have HO336 := Aside0.mk (Kd.R_lower ho0 (below_size (r1_ HB.out HI333.out))); replace HB := Aside0.mk (hb); replace HI333 := Aside0.mk (hi); (try clear hb); (try clear hb2); (try clear hk); (try clear hi); (try clear ho0)) | ((with_reducible refine gate_callee (f := 144) rfl ?_); refine goesL_ (some 12) rfl rfl Try.func144 (by kernel_rfl) rfl #[.pointer (some ⟨g333, 0, none⟩)] rfl ag_ ?_; (with_reducible refine (spec_l16Draw.calls k g333 t330 t337 t338 t339 t342 t343 w _ ?side1 ?side2 A4.out).mono ?_); (case side1 => exact r0_ HI333.out); (case side2 => exact r1_ HB.out HI333.out); rintro e w7 ⟨v340, rfl, ho0, hi, hb, hk⟩; refine ⟨_, rfl, ?_⟩; have HO341 := Aside0.mk (Kd.R_lower (Kd.R_new' ho0 (Kd.R_lt (rk_ HO336.out))) (below_size (r1_ HB.out HI333.out))); replace HO336 := Aside0.mk (Kd.R_mono (Kd.R_told (Kd.R_oldK (IsS215.apart (show IsS215 w _ g333 t330 t337 t338 from r0_ HI333.out) (rk_ HO336.out) (by decide)) hk) (Kd.R_base ho0)) (fun _ h_ => h_.1)); replace HB := Aside0.mk (hb); replace HI333 := Aside0.mk (hi); (try clear hb); (try clear hb2); (try clear hk); (try clear hi); (try clear ho0)))
  go_ret2
  exact ⟨_, _, re_, rk_ (Kd.R_mono HO336.out (fun _ hk => hk.2)), rk_ (Kd.R_mono HO341.out (fun _ hk => hk.2)), r1_ HB.out HI333.out⟩
end Go.Proofs.Ytedcdhnbceaaeaa.PFnTables
