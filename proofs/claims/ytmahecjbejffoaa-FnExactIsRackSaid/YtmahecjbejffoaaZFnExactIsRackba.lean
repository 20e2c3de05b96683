/- QFnExactIsRackd of the law FnExactIsRack: taken over, declaration by declaration, as far as the law leans on it (the words and the printed functions are the kit's own print). No condition but what each says. -/
import Derived.Test.YtmahecjbejffoaaZFnExactIsRackav
import Derived.Test.YtmahecjbejffoaaZFnExactIsRackaw
import Derived.Test.YtmahecjbejffoaaZFnExactIsRackaz
namespace Go.Proofs.Ytmahecjbejffoaa.PFnExactIsRack
open Go.RowKit Go.Proofs.YtmahecjbejffoaaW.PrintWords Go.Proofs.YtmahecjbejffoaaW.PrintLast Go.Proofs.YtmahecjbejffoaaW.PrintMore
attribute [local go_sem] max2_int min2_int max_two min_two max_three min_three max_four min_four   -- for this text's walks alone
set_option linter.unusedVariables false
set_option linter.unusedSimpArgs false
open Bool renaming true → t_, false → f_
def laws_fillerArticle.f  : Option (ByteArray × Int × Int × Int × Int × Int × Int × Int × Int) := some ((⟨#[126, 115, 112, 97, 114, 101, 126]⟩ : ByteArray), (-7000000000000000101), (-7000000000000000101), (-7000000000000000101), (-7000000000000000101), (-7000000000000000101), (-7000000000000000101), (-7000000000000000101), (-7000000000000000101))
set_option maxHeartbeats 8000000 in
set_option maxRecDepth 100000 in
theorem laws_fillerArticle.calls  (r1 : ByteArray) (r2 : Int) (r3 : Int) (r4 : Int) (r5 : Int) (r6 : Int) (r7 : Int) (r8 : Int) (r9 : Int) (w : World) (h : laws_fillerArticle.f  = some (r1, r2, r3, r4, r5, r6, r7, r8, r9)) :
  Calls Try.prog 169 #[] w fun e w' => e = .returned (.agg #[.string r1, .int .i64 r2, .int .i64 r3, .int .i64 r4, .int .i64 r5, .int .i64 r6, .int .i64 r7, .int .i64 r8, .int .i64 r9]) ∧ Below w.heap.size w w' := by
 have hu177 := Try.underlying177
 have HB := Aside0.mk (Below.refl w.heap.size w)
 have H : (some ((⟨#[126, 115, 112, 97, 114, 101, 126]⟩ : ByteArray), (-7000000000000000101), (-7000000000000000101), (-7000000000000000101), (-7000000000000000101), (-7000000000000000101), (-7000000000000000101), (-7000000000000000101), (-7000000000000000101))) = some (r1, r2, r3, r4, r5, r6, r7, r8, r9) := h
 clear h
 simp only [Option.some.injEq, Prod.mk.injEq] at H
 obtain ⟨rfl, rfl, rfl, rfl, rfl, rfl, rfl, rfl, rfl⟩ := H
 go_enter Try.func169, Try.ntmps169
 go_wp2_with (first | ((with_reducible refine gate_dst (N := 0) rfl ?_); refine box_event ?hg (N := 0) ?hd (cs := #[.string (⟨#[]⟩ : ByteArray), .int .i64 0, .int .i64 0, .int .i64 0, .int .i64 0, .int .i64 0, .int .i64 0, .int .i64 0, .int .i64 0]) (t := 177) ?hr ?_; (case hd => rfl); (case hg => rfl); (case hr => first | (go_simp; done) | (go_simp; rfl)); intro gb142 hg w1 hbox hb; have BK142 := Aside0.mk (hbox); have GW142 := Aside0.mk ((by rw [hg]; exact (below_size (bl_ HB.out)) : w.heap.size ≤ gb142)); have GE142 := Aside0.mk ((by rw [hg]; exact (below_size (bl_ HB.out)) : w.heap.size ≤ gb142)); replace HB := Aside0.mk (below_step (bl_ HB.out) hb); clear hb hbox hg; have hcz2_0 : w1.cell? ⟨gb142, 0, none⟩ = some (.string (⟨#[]⟩ : ByteArray)) := (blk_cell BK142.out 0).trans rfl; have hcz2_1 : w1.cell? ⟨gb142, 1, none⟩ = some (.int .i64 0) := (blk_cell BK142.out 1).trans rfl; have hcz2_2 : w1.cell? ⟨gb142, 2, none⟩ = some (.int .i64 0) := (blk_cell BK142.out 2).trans rfl; have hcz2_3 : w1.cell? ⟨gb142, 3, none⟩ = some (.int .i64 0) := (blk_cell BK142.out 3).trans rfl; have hcz2_4 : w1.cell? ⟨gb142, 4, none⟩ = some (.int .i64 0) := (blk_cell BK142.out 4).trans rfl; have hcz2_5 : w1.cell? ⟨gb142, 5, none⟩ = some (.int .i64 0) := (blk_cell BK142.out 5).trans rfl; have hcz2_6 : w1.cell? ⟨gb142, 6, none⟩ = some (.int .i64 0) := (blk_cell BK142.out 6).trans rfl; have hcz2_7 : w1.cell? ⟨gb142, 7, none⟩ = some (.int .i64 0) := (blk_cell BK142.out 7).trans rfl; have hcz2_8 : w1.cell? ⟨gb142, 8, none⟩ = some (.int .i64 0) := (blk_cell BK142.out 8).trans rfl; have hfz2_0 := blk_frozen BK142.out 0; have hfz2_1 := blk_frozen BK142.out 1; have hfz2_2 := blk_frozen BK142.out 2; have hfz2_3 := blk_frozen BK142.out 3; have hfz2_4 := blk_frozen BK142.out 4; have hfz2_5 := blk_frozen BK142.out 5; have hfz2_6 := blk_frozen BK142.out 6; have hfz2_7 := blk_frozen BK142.out 7; have hfz2_8 := blk_frozen BK142.out 8))
 refine bodyPost_ret (results_cell_row rfl _ _ gb142 177 #[.string (⟨#[126, 115, 112, 97, 114, 101, 126]⟩ : ByteArray), .int .i64 (-7000000000000000101), .int .i64 (-7000000000000000101), .int .i64 (-7000000000000000101), .int .i64 (-7000000000000000101), .int .i64 (-7000000000000000101), .int .i64 (-7000000000000000101), .int .i64 (-7000000000000000101), .int .i64 (-7000000000000000101)] (0, 0) _ rfl (by (with_reducible repeat (first | refine blk_drewN ?_ _ | refine blk_drew ?_ | refine blk_alloc ?_ _)); refine blk_put (cs := #[.string (⟨#[126, 115, 112, 97, 114, 101, 126]⟩ : ByteArray), .int .i64 (-7000000000000000101), .int .i64 (-7000000000000000101), .int .i64 (-7000000000000000101), .int .i64 (-7000000000000000101), .int .i64 (-7000000000000000101), .int .i64 (-7000000000000000101), .int .i64 (-7000000000000000101), .int .i64 0]) ?_ 8 _ rfl; (with_reducible repeat (first | refine blk_drewN ?_ _ | refine blk_drew ?_ | refine blk_alloc ?_ _)); refine blk_put (cs := #[.string (⟨#[126, 115, 112, 97, 114, 101, 126]⟩ : ByteArray), .int .i64 (-7000000000000000101), .int .i64 (-7000000000000000101), .int .i64 (-7000000000000000101), .int .i64 (-7000000000000000101), .int .i64 (-7000000000000000101), .int .i64 (-7000000000000000101), .int .i64 0, .int .i64 0]) ?_ 7 _ rfl; (with_reducible repeat (first | refine blk_drewN ?_ _ | refine blk_drew ?_ | refine blk_alloc ?_ _)); refine blk_put (cs := #[.string (⟨#[126, 115, 112, 97, 114, 101, 126]⟩ : ByteArray), .int .i64 (-7000000000000000101), .int .i64 (-7000000000000000101), .int .i64 (-7000000000000000101), .int .i64 (-7000000000000000101), .int .i64 (-7000000000000000101), .int .i64 0, .int .i64 0, .int .i64 0]) ?_ 6 _ rfl; (with_reducible repeat (first | refine blk_drewN ?_ _ | refine blk_drew ?_ | refine blk_alloc ?_ _)); refine blk_put (cs := #[.string (⟨#[126, 115, 112, 97, 114, 101, 126]⟩ : ByteArray), .int .i64 (-7000000000000000101), .int .i64 (-7000000000000000101), .int .i64 (-7000000000000000101), .int .i64 (-7000000000000000101), .int .i64 0, .int .i64 0, .int .i64 0, .int .i64 0]) ?_ 5 _ rfl; (with_reducible repeat (first | refine blk_drewN ?_ _ | refine blk_drew ?_ | refine blk_alloc ?_ _)); refine blk_put (cs := #[.string (⟨#[126, 115, 112, 97, 114, 101, 126]⟩ : ByteArray), .int .i64 (-7000000000000000101), .int .i64 (-7000000000000000101), .int .i64 (-7000000000000000101), .int .i64 0, .int .i64 0, .int .i64 0, .int .i64 0, .int .i64 0]) ?_ 4 _ rfl; (with_reducible repeat (first | refine blk_drewN ?_ _ | refine blk_drew ?_ | refine blk_alloc ?_ _)); refine blk_put (cs := #[.string (⟨#[126, 115, 112, 97, 114, 101, 126]⟩ : ByteArray), .int .i64 (-7000000000000000101), .int .i64 (-7000000000000000101), .int .i64 0, .int .i64 0, .int .i64 0, .int .i64 0, .int .i64 0, .int .i64 0]) ?_ 3 _ rfl; (with_reducible repeat (first | refine blk_drewN ?_ _ | refine blk_drew ?_ | refine blk_alloc ?_ _)); refine blk_put (cs := #[.string (⟨#[126, 115, 112, 97, 114, 101, 126]⟩ : ByteArray), .int .i64 (-7000000000000000101), .int .i64 0, .int .i64 0, .int .i64 0, .int .i64 0, .int .i64 0, .int .i64 0, .int .i64 0]) ?_ 2 _ rfl; (with_reducible repeat (first | refine blk_drewN ?_ _ | refine blk_drew ?_ | refine blk_alloc ?_ _)); refine blk_put (cs := #[.string (⟨#[126, 115, 112, 97, 114, 101, 126]⟩ : ByteArray), .int .i64 0, .int .i64 0, .int .i64 0, .int .i64 0, .int .i64 0, .int .i64 0, .int .i64 0, .int .i64 0]) ?_ 1 _ rfl; (with_reducible repeat (first | refine blk_drewN ?_ _ | refine blk_drew ?_ | refine blk_alloc ?_ _)); refine blk_put (cs := #[.string (⟨#[]⟩ : ByteArray), .int .i64 0, .int .i64 0, .int .i64 0, .int .i64 0, .int .i64 0, .int .i64 0, .int .i64 0, .int .i64 0]) ?_ 0 _ rfl; (with_reducible repeat (first | refine blk_drewN ?_ _ | refine blk_drew ?_ | refine blk_alloc ?_ _)); exact BK142.out) Try.underlying177 rfl (by kernel_rfl)) rfl ?_
 exact ⟨by first | rfl | (simp [errW_none, errW_some] <;> rfl) | (simp [*, errW_none, errW_some] <;> rfl), r0_ HB.out GE142.out⟩
mutual
def laws_toArticleS.j0 : Nat → List (S172) → Bool → Option ((List (S177)))
 | 0, _, _ => none
 | k + 1, x0, x13 => if x13 = true then (some ([] : List (S177))) else ((laws_roomBehind.f (x0.length : Int)).bind fun t143 => (if 0 ≤ (wrap64 ((x0.length : Int) + t143)) then (if (wrap64 ((x0.length : Int) + t143) : Int).toNat ≤ 3518437208883 then (laws_toArticleS.l0 k x0 (List.replicate (wrap64 ((x0.length : Int) + t143) : Int).toNat z177) 0) else (none)) else (none)))
def laws_toArticleS.l0 : Nat → List (S172) → List (S177) → Int → Option ((List (S177)))
 | 0, _, _, _ => none
 | k + 1, x0, x5, x6 => if x6 < (x0.length : Int) then (if 0 ≤ x6 then ((laws_toArticle.f ((rd_T172 x0 x6).f0) ((rd_T172 x0 x6).f1) ((rd_T172 x0 x6).f2) ((rd_T172 x0 x6).f3) ((rd_T172 x0 x6).f4) ((rd_T172 x0 x6).f5) ((rd_T172 x0 x6).f6) ((rd_T172 x0 x6).f7) ((rd_T172 x0 x6).f8)).bind fun bt148 => (if x6 < (x5.length : Int) then (laws_toArticleS.l0 k x0 (x5.set (x6 : Int).toNat (⟨bt148.1, bt148.2.1, bt148.2.2.1, bt148.2.2.2.1, bt148.2.2.2.2.1, bt148.2.2.2.2.2.1, bt148.2.2.2.2.2.2.1, bt148.2.2.2.2.2.2.2.1, bt148.2.2.2.2.2.2.2.2⟩ : S177)) (wrap64 (x6 + 1))) else (none))) else (none)) else (laws_toArticleS.l1 k x0 x5 (x0.length : Int))
def laws_toArticleS.l1 : Nat → List (S172) → List (S177) → Int → Option ((List (S177)))
 | 0, _, _, _ => none
 | k + 1, x0, x5, x7 => if x7 < (x5.length : Int) then ((laws_fillerArticle.f).bind fun bt158 => (if 0 ≤ x7 then (laws_toArticleS.l1 k x0 (x5.set (x7 : Int).toNat (⟨bt158.1, bt158.2.1, bt158.2.2.1, bt158.2.2.2.1, bt158.2.2.2.2.1, bt158.2.2.2.2.2.1, bt158.2.2.2.2.2.2.1, bt158.2.2.2.2.2.2.2.1, bt158.2.2.2.2.2.2.2.2⟩ : S177)) (wrap64 (x7 + 1))) else (none))) else (if 0 ≤ (x0.length : Int) then (if (x0.length : Int) ≤ (x5.length : Int) then (some (x5.take ((x0.length : Int) : Int).toNat)) else (none)) else (none))
end
def laws_toArticleS.f (k : Nat) (l0 : List (S172)) (a1 : Bool) : Option ((List (S177))) := if a1 = true then (laws_toArticleS.j0 k l0 ((l0.length : Int) == 0)) else (laws_toArticleS.j0 k l0 false)
theorem laws_toArticleS.mono_l : ∀ k, (∀ y0 y1, LeO (laws_toArticleS.j0 k y0 y1) (laws_toArticleS.j0 (k + 1) y0 y1)) ∧ (∀ y0 y1 y2, LeO (laws_toArticleS.l0 k y0 y1 y2) (laws_toArticleS.l0 (k + 1) y0 y1 y2)) ∧ (∀ y0 y1 y2, LeO (laws_toArticleS.l1 k y0 y1 y2) (laws_toArticleS.l1 (k + 1) y0 y1 y2))
 | 0 => ⟨fun _ _ r h => by simp [laws_toArticleS.j0] at h, fun _ _ _ r h => by simp [laws_toArticleS.l0] at h, fun _ _ _ r h => by simp [laws_toArticleS.l1] at h⟩
 | k + 1 => by
  obtain ⟨ih0, ih1, ih2⟩ := laws_toArticleS.mono_l k
  refine ⟨?_, ?_, ?_⟩
  ·intro y0 y1
   unfold laws_toArticleS.j0
   repeat' first
   | (with_reducible exact ih0 _ _)
   | (with_reducible exact ih1 _ _ _)
   | (with_reducible exact ih2 _ _ _)
   | (with_reducible exact LeO.refl _)
   | (with_reducible exact LeO.none _)
   | (with_reducible refine LeO.ite ?_ ?_)
   | (with_reducible refine LeO.bind ?_ (fun _ => ?_))
   | exact ih0 _ _
   | exact ih1 _ _ _
   | exact ih2 _ _ _
   | exact LeO.none _
   | refine LeO.ite ?_ ?_
   | refine LeO.bind ?_ (fun _ => ?_)
  ·intro y0 y1 y2
   unfold laws_toArticleS.l0
   repeat' first
   | (with_reducible exact ih0 _ _)
   | (with_reducible exact ih1 _ _ _)
   | (with_reducible exact ih2 _ _ _)
   | (with_reducible exact LeO.refl _)
   | (with_reducible exact LeO.none _)
   | (with_reducible refine LeO.ite ?_ ?_)
   | (with_reducible refine LeO.bind ?_ (fun _ => ?_))
   | exact ih0 _ _
   | exact ih1 _ _ _
   | exact ih2 _ _ _
   | exact LeO.none _
   | refine LeO.ite ?_ ?_
   | refine LeO.bind ?_ (fun _ => ?_)
  ·intro y0 y1 y2
   unfold laws_toArticleS.l1
   repeat' first
   | (with_reducible exact ih0 _ _)
   | (with_reducible exact ih1 _ _ _)
   | (with_reducible exact ih2 _ _ _)
   | (with_reducible exact LeO.refl _)
   | (with_reducible exact LeO.none _)
   | (with_reducible refine LeO.ite ?_ ?_)
   | (with_reducible refine LeO.bind ?_ (fun _ => ?_))
   | exact ih0 _ _
   | exact ih1 _ _ _
   | exact ih2 _ _ _
   | exact LeO.none _
   | refine LeO.ite ?_ ?_
   | refine LeO.bind ?_ (fun _ => ?_)
theorem laws_toArticleS.mono : ∀ a0 a1 k, LeO (laws_toArticleS.f k a0 a1) (laws_toArticleS.f (k + 1) a0 a1) := by
 intro a0 a1 k
 obtain ⟨ih0, ih1, ih2⟩ := laws_toArticleS.mono_l k
 unfold laws_toArticleS.f
 repeat' first
   | (with_reducible exact ih0 _ _)
   | (with_reducible exact ih1 _ _ _)
   | (with_reducible exact ih2 _ _ _)
   | (with_reducible exact LeO.refl _)
   | (with_reducible exact LeO.none _)
   | (with_reducible refine LeO.ite ?_ ?_)
   | (with_reducible refine LeO.bind ?_ (fun _ => ?_))
   | exact ih0 _ _
   | exact ih1 _ _ _
   | exact ih2 _ _ _
   | exact LeO.none _
   | refine LeO.ite ?_ ?_
   | refine LeO.bind ?_ (fun _ => ?_)
set_option maxHeartbeats 8000000 in
set_option maxRecDepth 100000 in
theorem laws_toArticleS.calls (k : Nat) (A0 : Option Addr) (c0 : Nat) (l0 : List (S172)) (a1 : Bool) (r : List (S177)) (w : World) (hr0 : Kd.C k172 w A0 l0.length l0) (hc0 : l0.length ≤ c0) (h : laws_toArticleS.f k l0 a1 = some r) :
  Calls Try.prog 91 #[.slice A0 l0.length c0, .bool a1] w fun e w' => ∃ v0_ : Value, e = .returned (v0_) ∧ Kd.R k177 177 w' w.heap.size (fun _ => True) v0_ r ∧ Below w.heap.size w w' := by
 have hu172 := Try.underlying172
 have hu177 := Try.underlying177
 have HR0 := Aside0.mk hr0
 have HC0 := Aside0.mk hc0
 clear hr0 hc0
 have HB := Aside0.mk (Below.refl w.heap.size w)
 have H : (if a1 = true then (laws_toArticleS.j0 k l0 ((l0.length : Int) == 0)) else (laws_toArticleS.j0 k l0 false)) = some r := h
 clear h
 have HC3 := Aside0.mk H
 clear H
 go_enter Try.func91, Try.ntmps91
 go_upto_region 1 with (fail)
 go_cut [13] (fun v13 wc => ∃ (kq : Nat) (x13_2 : Bool), v13 = .bool x13_2 ∧ Aside0 (laws_toArticleS.j0 kq l0 x13_2 = some r) ∧ Aside0 (kq ≤ k) ∧ Aside0 (Below w.heap.size w wc))
 case first =>
  have H := HC3.out
  clear HC3
  by_cases c4 : a1 = true
  ·subst c4
   replace H : (laws_toArticleS.j0 k l0 ((l0.length : Int) == 0)) = some r := by rw [if_pos rfl] at H; exact H
   have H' := Aside0.mk H
   clear H
   go_wp2
   go_meet
   case rel => exact ⟨_, (((l0.length : Int) == 0)), (by first | rfl | (simp; done) | (simp [*]; done)), H', ⟨by first | omega | exact Nat.le_refl _⟩, ⟨bl_ HB.out⟩⟩
  ·replace c4 := Bool.eq_false_iff.mpr c4
   subst c4
   replace H : (laws_toArticleS.j0 k l0 false) = some r := by rw [if_neg (show ¬ (false = true) by decide)] at H; exact H
   have H' := Aside0.mk H
   clear H
   go_wp2
   go_meet
   case rel => exact ⟨_, (false), (by first | rfl | (simp; done) | (simp [*]; done)), H', ⟨by first | omega | exact Nat.le_refl _⟩, ⟨bl_ HB.out⟩⟩
 case rest =>
  clear HC3
  try clear p2
  try clear c4
  obtain ⟨kq, x13_2, rfl, HA, HJ2, HB⟩ := hcut
  cases kq with
  | zero => exact absurd HA.out (by simp [laws_toArticleS.j0])
  | succ kj2 =>
   have H := HA.out
   clear HA
   simp only [laws_toArticleS.j0] at H
   by_cases c5 : x13_2 = true
   ·subst c5
    replace H : (some ([] : List (S177))) = some r := by rw [if_pos rfl] at H; exact H
    obtain rfl := Option.some.inj H
    go_wp2
    go_ret
    exact ⟨_, by first | rfl | (simp [errW_none, errW_some] <;> rfl) | (simp [*, errW_none, errW_some] <;> rfl), by first | exact Kd.R_nil _ _ _ _ _ | exact Kd.N_nil _ _ _ _ _ | exact Kd.V_nil _ _ _ _ _ | exact Kd.Q_nil _ _ _ _ _ | exact Kd.S_nil _ _ _ _ _, bl_ HB.out⟩
   ·replace c5 := Bool.eq_false_iff.mpr c5
    subst c5
    replace H : ((laws_roomBehind.f (l0.length : Int)).bind fun t143 => (if 0 ≤ (wrap64 ((l0.length : Int) + t143)) then (if (wrap64 ((l0.length : Int) + t143) : Int).toNat ≤ 3518437208883 then (laws_toArticleS.l0 kj2 l0 (List.replicate (wrap64 ((l0.length : Int) + t143) : Int).toNat z177) 0) else (none)) else (none))) = some r := by rw [if_neg (show ¬ (false = true) by decide)] at H; exact H
    replace H := Option.bind_eq_some_iff.mp H
    obtain ⟨t143, A60, H⟩ := H
    replace H : (if 0 ≤ (wrap64 ((l0.length : Int) + t143)) then (if (wrap64 ((l0.length : Int) + t143) : Int).toNat ≤ 3518437208883 then (laws_toArticleS.l0 kj2 l0 (List.replicate (wrap64 ((l0.length : Int) + t143) : Int).toNat z177) 0) else (none)) else (none)) = some r := H
    have A6 := Aside0.mk A60
    clear A60
    obtain ⟨ji7, hji7⟩ : ∃ j_ : Int, (wrap64 ((l0.length : Int) + t143)) = j_ := ⟨_, rfl⟩
    replace H : (if 0 ≤ (ji7) then (if (ji7 : Int).toNat ≤ 3518437208883 then (laws_toArticleS.l0 kj2 l0 (List.replicate (ji7 : Int).toNat z177) 0) else (none)) else (none)) = some r := by first | (rw [hji7] at H; exact H) | (simp only [hji7] at H ⊢; exact H)
    (try rw [hji7] at A6)
    have hji7w : (IntKind.i64.wrap ((l0.length : Int) + t143)) = ji7 := (i64_w _).trans hji7
    by_cases c8 : 0 ≤ (ji7)
    case neg =>
     rw [if_neg c8] at H
     exact absurd H (by simp)


    rw [if_pos c8] at H
    have c8b0 := eq_true c8
    have c8b1 : decide (0 ≤ (ji7)) = true := decide_eq_true c8
    clear c8
    by_cases c9 : (ji7 : Int).toNat ≤ 3518437208883
    case neg =>
     rw [if_neg c9] at H
     exact absurd H (by simp)
    rw [if_pos c9] at H
    have c9b0 := eq_true c9
    have c9b1 : decide ((ji7 : Int).toNat ≤ 3518437208883) = true := decide_eq_true c9
    clear c9
    obtain ⟨y144, hy144⟩ : ∃ y_ : List (S177), y_ = (List.replicate (ji7 : Int).toNat z177) := ⟨_, rfl⟩
    replace H : (laws_toArticleS.l0 kj2 l0 y144 0) = some r := by first | (rw [hy144]; with_reducible exact H) | (have H2_ := (Option.bind_some _ _).symm.trans H; rw [hy144]; with_reducible exact H2_) | (have H2_ := (Option.bind_some _ _).symm.trans H; with_reducible exact H2_) | with_reducible exact H | (rw [hy144]; exact H) | exact H
    have Ny144 := Aside0.mk hy144
    clear hy144
    have H' := Aside0.mk H
    clear H
    go_wp2_with (first | ((with_reducible refine gate_callee (f := 120) rfl ?_); refine goesL_ (some 18) rfl rfl Try.func120 (by kernel_rfl) rfl #[.int .i64 (l0.length : Int)] rfl ag_ ?_; (with_reducible refine (laws_roomBehind.calls (l0.length : Int) t143 _ A6.out).mono ?_); rintro e w' ⟨rfl, ⟨nd, rfl⟩⟩; refine ⟨_, rfl, ?_⟩) | ((with_reducible refine gate_dst (N := 20) rfl ?_); (try (refine gate_guard (by rfl) ?_; dsimp only)); refine Kd.R_make k177 _ 177 rfl (N := 20) rfl 104 _ _ rfl ji7 rfl rfl Try.underlying104 (.agg #[(.string ⟨#[]⟩), (.int .i64 0), (.int .i64 0), (.int .i64 0), (.int .i64 0), (.int .i64 0), (.int .i64 0), (.int .i64 0), (.int .i64 0)]) 80 info177 rfl (by decide) (by omega) z177 (ok := fun _ => True) (okp := fun _ => True) (k177_mkM _ _ _ z177 ) (fun _ hk => hk) trivial od_ (Nat.le_trans (Nat.mul_le_mul_right _ (od_ : ji7.toNat ≤ 3518437208883)) (by omega)) (Below.refl _ _) (Nat.le_refl _) ?_; intro v145 w10 ho11 hb hg_ hnew_; clear hg_ hnew_; (first | rw [← Ny144.out] at ho11 | (simp only [Int.reduceToNat] at ho11; rw [← Ny144.out] at ho11)); have HO146 := Aside0.mk (Kd.R_lower ho11 (below_size (bl_ HB.out))); replace HB := Aside0.mk (below_step (bl_ HB.out) hb); clear hb ho11))
    go_loopg [6] kj2 (fun kq v6 w' => ∃ (x5_2 : List (S177)) (x6_2 : Int), v6 = .int .i64 x6_2 ∧ Aside0 (laws_toArticleS.l0 kq l0 x5_2 x6_2 = some r) ∧ Aside0 (kq ≤ kj2) ∧ Aside0 (Kd.R k177 177 w' w.heap.size (fun _ => True) v145 x5_2) ∧ Aside0 (Below w.heap.size w w'))
    case atStart => exact ⟨(y144), (0), (by first | rfl | (simp; done) | (simp [*]; done)), H', ⟨Nat.le_refl _⟩, ⟨rk_ HO146.out⟩, ⟨bl_ HB.out⟩⟩
    case round =>
     clear H'
     try clear c1
     try clear p2
     try clear c4
     try clear c5
     try clear p6
     try clear c8
     try clear c8b0
     try clear c8b1
     try clear c9
     try clear c9b0
     try clear c9b1
     try clear p2
     obtain ⟨x5_2, x6_2, rfl, HA, HK2, HO_5, HB⟩ := hrel
     cases gk with
     | zero => exact absurd HA.out (by simp [laws_toArticleS.l0])
     | succ k2 =>
      have H := HA.out
      clear HA
      simp only [laws_toArticleS.l0] at H
      by_cases c12 : x6_2 < (l0.length : Int)
      ·rw [if_pos c12] at H
       have c12b0 : decide (x6_2 < (l0.length : Int)) = true := decide_eq_true c12
       clear c12
       by_cases c13 : 0 ≤ x6_2
       case neg =>
        rw [if_neg c13] at H
        exact absurd H (by simp)
       rw [if_pos c13] at H
       have c13b0 : decide (0 ≤ x6_2) = true := decide_eq_true c13
       clear c13
       replace H := Option.bind_eq_some_iff.mp H
       obtain ⟨⟨t148, t149, t150, t151, t152, t153, t154, t155, t156⟩, A140, H⟩ := H
       replace H : (if x6_2 < (x5_2.length : Int) then (laws_toArticleS.l0 k2 l0 (x5_2.set (x6_2 : Int).toNat (⟨t148, t149, t150, t151, t152, t153, t154, t155, t156⟩ : S177)) (wrap64 (x6_2 + 1))) else (none)) = some r := H
       have A14 := Aside0.mk A140
       clear A140
       by_cases c15 : x6_2 < (x5_2.length : Int)
       case neg =>
        rw [if_neg c15] at H
        exact absurd H (by simp)
       rw [if_pos c15] at H
       have c15b0 : decide (x6_2 < (x5_2.length : Int)) = true := decide_eq_true c15
       clear c15
       obtain ⟨y157, hy157⟩ : ∃ y_ : List (S177), y_ = (x5_2.set (x6_2 : Int).toNat (⟨t148, t149, t150, t151, t152, t153, t154, t155, t156⟩ : S177)) := ⟨_, rfl⟩
       replace H : (laws_toArticleS.l0 k2 l0 y157 (wrap64 (x6_2 + 1))) = some r := by first | (rw [hy157]; with_reducible exact H) | (have H2_ := (Option.bind_some _ _).symm.trans H; rw [hy157]; with_reducible exact H2_) | (have H2_ := (Option.bind_some _ _).symm.trans H; with_reducible exact H2_) | with_reducible exact H | (rw [hy157]; exact H) | exact H
       have Ny157 := Aside0.mk hy157
       clear hy157
       have H' := Aside0.mk H
       clear H
       have p147 : 0 ≤ (x6_2 : Int) := od_
       have q147 : x6_2 < (l0.length : Int) := od_
       obtain ⟨ad147, e147, hx147_0, hx147_1, hx147_2, hx147_3, hx147_4, hx147_5, hx147_6, hx147_7, hx147_8⟩ := at_T172 HR0.out x6_2 p147 q147
       cases e147
       replace hx147_0 := bc_ HB.out hx147_0
       replace hx147_1 := bc_ HB.out hx147_1
       replace hx147_2 := bc_ HB.out hx147_2
       replace hx147_3 := bc_ HB.out hx147_3
       replace hx147_4 := bc_ HB.out hx147_4
       replace hx147_5 := bc_ HB.out hx147_5
       replace hx147_6 := bc_ HB.out hx147_6
       replace hx147_7 := bc_ HB.out hx147_7
       replace hx147_8 := bc_ HB.out hx147_8
       replace p147 := eq_true p147
       replace q147 := eq_true q147
       go_wp2_with (first | ((with_reducible refine gate_callee (f := 168) rfl ?_); refine goesL_ (some 33) rfl rfl Try.func168 (by kernel_rfl) rfl #[.agg #[.string ((rd_T172 l0 x6_2).f0), .int .i64 ((rd_T172 l0 x6_2).f1), .int .i64 ((rd_T172 l0 x6_2).f2), .int .i64 ((rd_T172 l0 x6_2).f3), .int .i64 ((rd_T172 l0 x6_2).f4), .int .i64 ((rd_T172 l0 x6_2).f5), .int .i64 ((rd_T172 l0 x6_2).f6), .int .i64 ((rd_T172 l0 x6_2).f7), .int .i64 ((rd_T172 l0 x6_2).f8)]] rfl ag_ ?_; (with_reducible refine (laws_toArticle.calls ((rd_T172 l0 x6_2).f0) ((rd_T172 l0 x6_2).f1) ((rd_T172 l0 x6_2).f2) ((rd_T172 l0 x6_2).f3) ((rd_T172 l0 x6_2).f4) ((rd_T172 l0 x6_2).f5) ((rd_T172 l0 x6_2).f6) ((rd_T172 l0 x6_2).f7) ((rd_T172 l0 x6_2).f8) t148 t149 t150 t151 t152 t153 t154 t155 t156 _ A14.out).mono ?_); rintro e w17 ⟨rfl, hb⟩; refine ⟨_, rfl, ?_⟩; replace HO_5 := Aside0.mk (Kd.R_below (rk_ HO_5.out) hb); replace HB := Aside0.mk (below_step (bl_ HB.out) hb); (try clear hb); (try clear hb2); (try clear hk); (try clear hi); have p16 : 0 ≤ (x6_2 : Int) := od_; have q16 : (x6_2 : Int) < ((x5_2.length : Int) : Int) := od_; obtain ⟨go16, co16, eo16, gb16, gl16, cl16, HG16⟩ := Kd.R_form HO_5.out (by omega); (first | cases eo16 | (injection eo16 with ea_ en_ ec_; (first | subst ea_ | (injection ea_ with ea_; subst ea_)); subst ec_; clear en_)); have GB16 := Aside0.mk gb16; have GG16 := Aside0.mk HG16; clear gb16 gl16 HG16; obtain ⟨ce16, hcl16, hM16, hcc16, hfr16⟩ := Kd.R_elem HO_5.out z177 (x6_2 : Int) p16 q16; obtain rfl := k177_openM hM16; have hx16_0 : w17.cell? ⟨go16, (x6_2 : Int).toNat * 9, none⟩ = some (.string ((rd_T177 x5_2 x6_2).f0)) := hcc16 0 _ rfl; have hx16_1 : w17.cell? ⟨go16, (x6_2 : Int).toNat * 9 + 1, none⟩ = some (.int .i64 ((rd_T177 x5_2 x6_2).f1)) := hcc16 1 _ rfl; have hx16_2 : w17.cell? ⟨go16, (x6_2 : Int).toNat * 9 + 2, none⟩ = some (.int .i64 ((rd_T177 x5_2 x6_2).f2)) := hcc16 2 _ rfl; have hx16_3 : w17.cell? ⟨go16, (x6_2 : Int).toNat * 9 + 3, none⟩ = some (.int .i64 ((rd_T177 x5_2 x6_2).f3)) := hcc16 3 _ rfl; have hx16_4 : w17.cell? ⟨go16, (x6_2 : Int).toNat * 9 + 4, none⟩ = some (.int .i64 ((rd_T177 x5_2 x6_2).f4)) := hcc16 4 _ rfl; have hx16_5 : w17.cell? ⟨go16, (x6_2 : Int).toNat * 9 + 5, none⟩ = some (.int .i64 ((rd_T177 x5_2 x6_2).f5)) := hcc16 5 _ rfl; have hx16_6 : w17.cell? ⟨go16, (x6_2 : Int).toNat * 9 + 6, none⟩ = some (.int .i64 ((rd_T177 x5_2 x6_2).f6)) := hcc16 6 _ rfl; have hx16_7 : w17.cell? ⟨go16, (x6_2 : Int).toNat * 9 + 7, none⟩ = some (.int .i64 ((rd_T177 x5_2 x6_2).f7)) := hcc16 7 _ rfl; have hx16_8 : w17.cell? ⟨go16, (x6_2 : Int).toNat * 9 + 8, none⟩ = some (.int .i64 ((rd_T177 x5_2 x6_2).f8)) := hcc16 8 _ rfl; have hf16_0 : w17.frozen? ⟨go16, (x6_2 : Int).toNat * 9, none⟩ = false := hfr16 0; have hf16_1 : w17.frozen? ⟨go16, (x6_2 : Int).toNat * 9 + 1, none⟩ = false := hfr16 1; have hf16_2 : w17.frozen? ⟨go16, (x6_2 : Int).toNat * 9 + 2, none⟩ = false := hfr16 2; have hf16_3 : w17.frozen? ⟨go16, (x6_2 : Int).toNat * 9 + 3, none⟩ = false := hfr16 3; have hf16_4 : w17.frozen? ⟨go16, (x6_2 : Int).toNat * 9 + 4, none⟩ = false := hfr16 4; have hf16_5 : w17.frozen? ⟨go16, (x6_2 : Int).toNat * 9 + 5, none⟩ = false := hfr16 5; have hf16_6 : w17.frozen? ⟨go16, (x6_2 : Int).toNat * 9 + 6, none⟩ = false := hfr16 6; have hf16_7 : w17.frozen? ⟨go16, (x6_2 : Int).toNat * 9 + 7, none⟩ = false := hfr16 7; have hf16_8 : w17.frozen? ⟨go16, (x6_2 : Int).toNat * 9 + 8, none⟩ = false := hfr16 8; clear hcl16 hcc16 hfr16 hM16; replace p16 := eq_true p16; replace q16 := eq_true q16; have HX18 := Aside0.mk (show Kd.R k177 177 w17 w.heap.size (fun _ => True) (.slice (some ⟨go16, 0, none⟩) x5_2.length co16) x5_2 from (rk_ HO_5.out)); obtain ⟨ce18, hcl18, hM18, hcc18, hfr18⟩ := Kd.R_elem HX18.out z177 (x6_2 : Int) od_ (by have h_ : (x6_2 : Int) < ((x5_2.length : Int) : Int) := od_; first | exact h_ | (have e_ := (Kd.R_reads' HO_5.out).1; omega) | simpa using h_); obtain rfl := k177_openM hM18; have HP18 := Kd.R_seg HX18.out (x6_2 : Int) od_ (by have h_ : (x6_2 : Int) < ((x5_2.length : Int) : Int) := od_; first | exact h_ | (have e_ := (Kd.R_reads' HO_5.out).1; omega) | simpa using h_) (seg := [.string t148, .int .i64 t149, .int .i64 t150, .int .i64 t151, .int .i64 t152, .int .i64 t153, .int .i64 t154, .int .i64 t155, .int .i64 t156]) (j := 0) hcl18 hcc18 (show 9 ≤ 9 from by decide) (x' := (⟨t148, t149, t150, t151, t152, t153, t154, t155, t156⟩ : S177)) (k177_mkM _ _ _ (⟨t148, t149, t150, t151, t152, t153, t154, t155, t156⟩ : S177) ) (fun _ hk => hk); have hx18_0 := hcc18 0 _ rfl; (try simp only [show (k177).sz = 9 from rfl, Nat.mul_one, Nat.add_zero] at hx18_0); have hf18_0 := hfr18 0; (try simp only [show (k177).sz = 9 from rfl, Nat.mul_one, Nat.add_zero] at hf18_0); have hx18_1 := hcc18 1 _ rfl; (try simp only [show (k177).sz = 9 from rfl, Nat.mul_one, Nat.add_zero] at hx18_1); have hf18_1 := hfr18 1; (try simp only [show (k177).sz = 9 from rfl, Nat.mul_one, Nat.add_zero] at hf18_1); have hx18_2 := hcc18 2 _ rfl; (try simp only [show (k177).sz = 9 from rfl, Nat.mul_one, Nat.add_zero] at hx18_2); have hf18_2 := hfr18 2; (try simp only [show (k177).sz = 9 from rfl, Nat.mul_one, Nat.add_zero] at hf18_2); have hx18_3 := hcc18 3 _ rfl; (try simp only [show (k177).sz = 9 from rfl, Nat.mul_one, Nat.add_zero] at hx18_3); have hf18_3 := hfr18 3; (try simp only [show (k177).sz = 9 from rfl, Nat.mul_one, Nat.add_zero] at hf18_3); have hx18_4 := hcc18 4 _ rfl; (try simp only [show (k177).sz = 9 from rfl, Nat.mul_one, Nat.add_zero] at hx18_4); have hf18_4 := hfr18 4; (try simp only [show (k177).sz = 9 from rfl, Nat.mul_one, Nat.add_zero] at hf18_4); have hx18_5 := hcc18 5 _ rfl; (try simp only [show (k177).sz = 9 from rfl, Nat.mul_one, Nat.add_zero] at hx18_5); have hf18_5 := hfr18 5; (try simp only [show (k177).sz = 9 from rfl, Nat.mul_one, Nat.add_zero] at hf18_5); have hx18_6 := hcc18 6 _ rfl; (try simp only [show (k177).sz = 9 from rfl, Nat.mul_one, Nat.add_zero] at hx18_6); have hf18_6 := hfr18 6; (try simp only [show (k177).sz = 9 from rfl, Nat.mul_one, Nat.add_zero] at hf18_6); have hx18_7 := hcc18 7 _ rfl; (try simp only [show (k177).sz = 9 from rfl, Nat.mul_one, Nat.add_zero] at hx18_7); have hf18_7 := hfr18 7; (try simp only [show (k177).sz = 9 from rfl, Nat.mul_one, Nat.add_zero] at hf18_7); have hx18_8 := hcc18 8 _ rfl; (try simp only [show (k177).sz = 9 from rfl, Nat.mul_one, Nat.add_zero] at hx18_8); have hf18_8 := hfr18 8; (try simp only [show (k177).sz = 9 from rfl, Nat.mul_one, Nat.add_zero] at hf18_8); clear hcl18 hcc18 hfr18 hM18) | ((with_reducible refine gate_store (t := 177) (p := 34) rfl ?_); refine store_event (t := 177) (p := 34) (v := ?vo_w19) (w1 := (((((((((w17.setCell ⟨go16, (x6_2 : Int).toNat * 9, none⟩ (.string t148)).setCell ⟨go16, (x6_2 : Int).toNat * 9 + 1, none⟩ (.int .i64 t149)).setCell ⟨go16, (x6_2 : Int).toNat * 9 + 2, none⟩ (.int .i64 t150)).setCell ⟨go16, (x6_2 : Int).toNat * 9 + 3, none⟩ (.int .i64 t151)).setCell ⟨go16, (x6_2 : Int).toNat * 9 + 4, none⟩ (.int .i64 t152)).setCell ⟨go16, (x6_2 : Int).toNat * 9 + 5, none⟩ (.int .i64 t153)).setCell ⟨go16, (x6_2 : Int).toNat * 9 + 6, none⟩ (.int .i64 t154)).setCell ⟨go16, (x6_2 : Int).toNat * 9 + 7, none⟩ (.int .i64 t155)).setCell ⟨go16, (x6_2 : Int).toNat * 9 + 8, none⟩ (.int .i64 t156))) ?hg ?ho ?hn ?hr ?_; (case ho => rfl); (case hg => rfl); (case hn => rfl); (case hr => first | (go_simp; done) | (go_simp; rfl)); intro w19 hw; have hg : w17.grownBy w19 (some go16) := (by rw [hw]; exact HP18.2); have hp_ : Kd.R k177 177 w19 w.heap.size (fun _ => True) (.slice (some ⟨go16, 0, none⟩) x5_2.length co16) y157 := (by rw [hw, Ny157.out]; exact HP18.1); clear HP18; replace HO_5 := Aside0.mk (hp_); replace HB := Aside0.mk ((by rw [hw]; exact below_set (below_set (below_set (below_set (below_set (below_set (below_set (below_set (below_set (HB.out) GB16.out) GB16.out) GB16.out) GB16.out) GB16.out) GB16.out) GB16.out) GB16.out) GB16.out : Below w.heap.size w w19)); clear hg hw hp_))
       go_roundg k2
       case measure => have := HJ2.out; have := HK2.out; omega
       case rel => exact ⟨(y157), (wrap64 (x6_2 + 1)), (by first | rfl | (simp; done) | (simp [*]; done)), H', ⟨by have := HJ2.out; have := HK2.out; omega⟩, ⟨rk_ HO_5.out⟩, ⟨bl_ HB.out⟩⟩
      ·rw [if_neg c12] at H
       have c12b0 : decide (x6_2 < (l0.length : Int)) = false := decide_eq_false c12
       clear c12
       have H' := Aside0.mk H
       clear H
       go_wp2
       go_loopg [7] k2 (fun kq v7 w' => ∃ (x5_3 : List (S177)) (x7_3 : Int), v7 = .int .i64 x7_3 ∧ Aside0 (laws_toArticleS.l1 kq l0 x5_3 x7_3 = some r) ∧ Aside0 (kq ≤ k2) ∧ Aside0 (Kd.R k177 177 w' w.heap.size (fun _ => True) v145 x5_3) ∧ Aside0 (Below w.heap.size w w'))
       case atStart => exact ⟨(x5_2), ((l0.length : Int)), (by first | rfl | (simp; done) | (simp [*]; done)), H', ⟨Nat.le_refl _⟩, ⟨rk_ HO_5.out⟩, ⟨bl_ HB.out⟩⟩
       case round =>
        clear H'
        try clear c1
        try clear p1
        try clear q1
        try clear hx1
        try clear p2
        try clear c4
        try clear c5
        try clear p6
        try clear c8
        try clear c8b0
        try clear c8b1
        try clear c9
        try clear c9b0
        try clear c9b1
        try clear c12
        try clear c12b0
        try clear c13
        try clear c13b0
        try clear p14
        try clear q14
        try clear hx14
        try clear c15
        try clear c15b0
        try clear c16
        try clear p16
        try clear q16
        try clear hx16
        try clear hf16
        try clear c18
        try clear hx18
        try clear hf18
        try clear hx147_0
        try clear hx147_1
        try clear hx147_2
        try clear hx147_3
        try clear hx147_4
        try clear hx147_5
        try clear hx147_6
        try clear hx147_7
        try clear hx147_8
        try clear hx16_0
        try clear hx16_1
        try clear hx16_2
        try clear hx16_3
        try clear hx16_4
        try clear hx16_5
        try clear hx16_6
        try clear hx16_7
        try clear hx16_8
        try clear hx18_0
        try clear hx18_1
        try clear hx18_2
        try clear hx18_3
        try clear hx18_4
        try clear hx18_5
        try clear hx18_6
        try clear hx18_7
        try clear hx18_8
        try clear p147
        try clear p16
        try clear p2
        try clear p6
        try clear q147
        try clear q16
        obtain ⟨x5_3, x7_3, rfl, HA, HK3, HO_5, HB⟩ := hrel
        cases gk with
        | zero => exact absurd HA.out (by simp [laws_toArticleS.l1])
        | succ k3 =>
         have H := HA.out
         clear HA
         simp only [laws_toArticleS.l1] at H
         by_cases c20 : x7_3 < (x5_3.length : Int)
         ·rw [if_pos c20] at H
          have c20b0 : decide (x7_3 < (x5_3.length : Int)) = true := decide_eq_true c20
          clear c20
          replace H := Option.bind_eq_some_iff.mp H
          obtain ⟨⟨t158, t159, t160, t161, t162, t163, t164, t165, t166⟩, A210, H⟩ := H
          replace H : (if 0 ≤ x7_3 then (laws_toArticleS.l1 k3 l0 (x5_3.set (x7_3 : Int).toNat (⟨t158, t159, t160, t161, t162, t163, t164, t165, t166⟩ : S177)) (wrap64 (x7_3 + 1))) else (none)) = some r := H
          have A21 := Aside0.mk A210
          clear A210
          by_cases c22 : 0 ≤ x7_3
          case neg =>
           rw [if_neg c22] at H
           exact absurd H (by simp)
          rw [if_pos c22] at H
          have c22b0 : decide (0 ≤ x7_3) = true := decide_eq_true c22
          clear c22
          obtain ⟨y167, hy167⟩ : ∃ y_ : List (S177), y_ = (x5_3.set (x7_3 : Int).toNat (⟨t158, t159, t160, t161, t162, t163, t164, t165, t166⟩ : S177)) := ⟨_, rfl⟩
          replace H : (laws_toArticleS.l1 k3 l0 y167 (wrap64 (x7_3 + 1))) = some r := by first | (rw [hy167]; with_reducible exact H) | (have H2_ := (Option.bind_some _ _).symm.trans H; rw [hy167]; with_reducible exact H2_) | (have H2_ := (Option.bind_some _ _).symm.trans H; with_reducible exact H2_) | with_reducible exact H | (rw [hy167]; exact H) | exact H
          have Ny167 := Aside0.mk hy167
          clear hy167
          have H' := Aside0.mk H
          clear H
          obtain ⟨Ao24, co24, eo24⟩ := Kd.R_slice HO_5.out
          subst eo24
          go_wp2_with (first | ((with_reducible refine gate_callee (f := 169) rfl ?_); refine goesL_ (some 45) rfl rfl Try.func169 (by kernel_rfl) rfl #[] rfl ag_ ?_; (with_reducible refine (laws_fillerArticle.calls  t158 t159 t160 t161 t162 t163 t164 t165 t166 _ A21.out).mono ?_); rintro e w25 ⟨rfl, hb⟩; refine ⟨_, rfl, ?_⟩; replace HO_5 := Aside0.mk (Kd.R_below (rk_ HO_5.out) hb); replace HB := Aside0.mk (below_step (bl_ HB.out) hb); (try clear hb); (try clear hb2); (try clear hk); (try clear hi); have p23 : 0 ≤ (x7_3 : Int) := od_; have q23 : (x7_3 : Int) < ((x5_3.length : Int) : Int) := od_; obtain ⟨go23, co23, eo23, gb23, gl23, cl23, HG23⟩ := Kd.R_form HO_5.out (by omega); (first | cases eo23 | (injection eo23 with ea_ en_ ec_; (first | subst ea_ | (injection ea_ with ea_; subst ea_)); subst ec_; clear en_)); have GB23 := Aside0.mk gb23; have GG23 := Aside0.mk HG23; clear gb23 gl23 HG23; obtain ⟨ce23, hcl23, hM23, hcc23, hfr23⟩ := Kd.R_elem HO_5.out z177 (x7_3 : Int) p23 q23; obtain rfl := k177_openM hM23; have hx23_0 : w25.cell? ⟨go23, (x7_3 : Int).toNat * 9, none⟩ = some (.string ((rd_T177 x5_3 x7_3).f0)) := hcc23 0 _ rfl; have hx23_1 : w25.cell? ⟨go23, (x7_3 : Int).toNat * 9 + 1, none⟩ = some (.int .i64 ((rd_T177 x5_3 x7_3).f1)) := hcc23 1 _ rfl; have hx23_2 : w25.cell? ⟨go23, (x7_3 : Int).toNat * 9 + 2, none⟩ = some (.int .i64 ((rd_T177 x5_3 x7_3).f2)) := hcc23 2 _ rfl; have hx23_3 : w25.cell? ⟨go23, (x7_3 : Int).toNat * 9 + 3, none⟩ = some (.int .i64 ((rd_T177 x5_3 x7_3).f3)) := hcc23 3 _ rfl; have hx23_4 : w25.cell? ⟨go23, (x7_3 : Int).toNat * 9 + 4, none⟩ = some (.int .i64 ((rd_T177 x5_3 x7_3).f4)) := hcc23 4 _ rfl; have hx23_5 : w25.cell? ⟨go23, (x7_3 : Int).toNat * 9 + 5, none⟩ = some (.int .i64 ((rd_T177 x5_3 x7_3).f5)) := hcc23 5 _ rfl; have hx23_6 : w25.cell? ⟨go23, (x7_3 : Int).toNat * 9 + 6, none⟩ = some (.int .i64 ((rd_T177 x5_3 x7_3).f6)) := hcc23 6 _ rfl; have hx23_7 : w25.cell? ⟨go23, (x7_3 : Int).toNat * 9 + 7, none⟩ = some (.int .i64 ((rd_T177 x5_3 x7_3).f7)) := hcc23 7 _ rfl; have hx23_8 : w25.cell? ⟨go23, (x7_3 : Int).toNat * 9 + 8, none⟩ = some (.int .i64 ((rd_T177 x5_3 x7_3).f8)) := hcc23 8 _ rfl; have hf23_0 : w25.frozen? ⟨go23, (x7_3 : Int).toNat * 9, none⟩ = false := hfr23 0; have hf23_1 : w25.frozen? ⟨go23, (x7_3 : Int).toNat * 9 + 1, none⟩ = false := hfr23 1; have hf23_2 : w25.frozen? ⟨go23, (x7_3 : Int).toNat * 9 + 2, none⟩ = false := hfr23 2; have hf23_3 : w25.frozen? ⟨go23, (x7_3 : Int).toNat * 9 + 3, none⟩ = false := hfr23 3; have hf23_4 : w25.frozen? ⟨go23, (x7_3 : Int).toNat * 9 + 4, none⟩ = false := hfr23 4; have hf23_5 : w25.frozen? ⟨go23, (x7_3 : Int).toNat * 9 + 5, none⟩ = false := hfr23 5; have hf23_6 : w25.frozen? ⟨go23, (x7_3 : Int).toNat * 9 + 6, none⟩ = false := hfr23 6; have hf23_7 : w25.frozen? ⟨go23, (x7_3 : Int).toNat * 9 + 7, none⟩ = false := hfr23 7; have hf23_8 : w25.frozen? ⟨go23, (x7_3 : Int).toNat * 9 + 8, none⟩ = false := hfr23 8; clear hcl23 hcc23 hfr23 hM23; replace p23 := eq_true p23; replace q23 := eq_true q23; have HX26 := Aside0.mk (show Kd.R k177 177 w25 w.heap.size (fun _ => True) (.slice (some ⟨go23, 0, none⟩) x5_3.length co24) x5_3 from (rk_ HO_5.out)); obtain ⟨ce26, hcl26, hM26, hcc26, hfr26⟩ := Kd.R_elem HX26.out z177 (x7_3 : Int) od_ (by have h_ : (x7_3 : Int) < ((x5_3.length : Int) : Int) := od_; first | exact h_ | (have e_ := (Kd.R_reads' HO_5.out).1; omega) | simpa using h_); obtain rfl := k177_openM hM26; have HP26 := Kd.R_seg HX26.out (x7_3 : Int) od_ (by have h_ : (x7_3 : Int) < ((x5_3.length : Int) : Int) := od_; first | exact h_ | (have e_ := (Kd.R_reads' HO_5.out).1; omega) | simpa using h_) (seg := [.string t158, .int .i64 t159, .int .i64 t160, .int .i64 t161, .int .i64 t162, .int .i64 t163, .int .i64 t164, .int .i64 t165, .int .i64 t166]) (j := 0) hcl26 hcc26 (show 9 ≤ 9 from by decide) (x' := (⟨t158, t159, t160, t161, t162, t163, t164, t165, t166⟩ : S177)) (k177_mkM _ _ _ (⟨t158, t159, t160, t161, t162, t163, t164, t165, t166⟩ : S177) ) (fun _ hk => hk); have hx26_0 := hcc26 0 _ rfl; (try simp only [show (k177).sz = 9 from rfl, Nat.mul_one, Nat.add_zero] at hx26_0); have hf26_0 := hfr26 0; (try simp only [show (k177).sz = 9 from rfl, Nat.mul_one, Nat.add_zero] at hf26_0); have hx26_1 := hcc26 1 _ rfl; (try simp only [show (k177).sz = 9 from rfl, Nat.mul_one, Nat.add_zero] at hx26_1); have hf26_1 := hfr26 1; (try simp only [show (k177).sz = 9 from rfl, Nat.mul_one, Nat.add_zero] at hf26_1); have hx26_2 := hcc26 2 _ rfl; (try simp only [show (k177).sz = 9 from rfl, Nat.mul_one, Nat.add_zero] at hx26_2); have hf26_2 := hfr26 2; (try simp only [show (k177).sz = 9 from rfl, Nat.mul_one, Nat.add_zero] at hf26_2); have hx26_3 := hcc26 3 _ rfl; (try simp only [show (k177).sz = 9 from rfl, Nat.mul_one, Nat.add_zero] at hx26_3); have hf26_3 := hfr26 3; (try simp only [show (k177).sz = 9 from rfl, Nat.mul_one, Nat.add_zero] at hf26_3); have hx26_4 := hcc26 4 _ rfl; (try simp only [show (k177).sz = 9 from rfl, Nat.mul_one, Nat.add_zero] at hx26_4); have hf26_4 := hfr26 4; (try simp only [show (k177).sz = 9 from rfl, Nat.mul_one, Nat.add_zero] at hf26_4); have hx26_5 := hcc26 5 _ rfl; (try simp only [show (k177).sz = 9 from rfl, Nat.mul_one, Nat.add_zero] at hx26_5); have hf26_5 := hfr26 5; (try simp only [show (k177).sz = 9 from rfl, Nat.mul_one, Nat.add_zero] at hf26_5); have hx26_6 := hcc26 6 _ rfl; (try simp only [show (k177).sz = 9 from rfl, Nat.mul_one, Nat.add_zero] at hx26_6); have hf26_6 := hfr26 6; (try simp only [show (k177).sz = 9 from rfl, Nat.mul_one, Nat.add_zero] at hf26_6); have hx26_7 := hcc26 7 _ rfl; (try simp only [show (k177).sz = 9 from rfl, Nat.mul_one, Nat.add_zero] at hx26_7); have hf26_7 := hfr26 7; (try simp only [show (k177).sz = 9 from rfl, Nat.mul_one, Nat.add_zero] at hf26_7); have hx26_8 := hcc26 8 _ rfl; (try simp only [show (k177).sz = 9 from rfl, Nat.mul_one, Nat.add_zero] at hx26_8); have hf26_8 := hfr26 8; (try simp only [show (k177).sz = 9 from rfl, Nat.mul_one, Nat.add_zero] at hf26_8); clear hcl26 hcc26 hfr26 hM26) | ((with_reducible refine gate_store (t := 177) (p := 46) rfl ?_); refine store_event (t := 177) (p := 46) (v := ?vo_w27) (w1 := (((((((((w25.setCell ⟨go23, (x7_3 : Int).toNat * 9, none⟩ (.string t158)).setCell ⟨go23, (x7_3 : Int).toNat * 9 + 1, none⟩ (.int .i64 t159)).setCell ⟨go23, (x7_3 : Int).toNat * 9 + 2, none⟩ (.int .i64 t160)).setCell ⟨go23, (x7_3 : Int).toNat * 9 + 3, none⟩ (.int .i64 t161)).setCell ⟨go23, (x7_3 : Int).toNat * 9 + 4, none⟩ (.int .i64 t162)).setCell ⟨go23, (x7_3 : Int).toNat * 9 + 5, none⟩ (.int .i64 t163)).setCell ⟨go23, (x7_3 : Int).toNat * 9 + 6, none⟩ (.int .i64 t164)).setCell ⟨go23, (x7_3 : Int).toNat * 9 + 7, none⟩ (.int .i64 t165)).setCell ⟨go23, (x7_3 : Int).toNat * 9 + 8, none⟩ (.int .i64 t166))) ?hg ?ho ?hn ?hr ?_; (case ho => rfl); (case hg => rfl); (case hn => rfl); (case hr => first | (go_simp; done) | (go_simp; rfl)); intro w27 hw; have hg : w25.grownBy w27 (some go23) := (by rw [hw]; exact HP26.2); have hp_ : Kd.R k177 177 w27 w.heap.size (fun _ => True) (.slice (some ⟨go23, 0, none⟩) x5_3.length co24) y167 := (by rw [hw, Ny167.out]; exact HP26.1); clear HP26; replace HO_5 := Aside0.mk (hp_); replace HB := Aside0.mk ((by rw [hw]; exact below_set (below_set (below_set (below_set (below_set (below_set (below_set (below_set (below_set (HB.out) GB23.out) GB23.out) GB23.out) GB23.out) GB23.out) GB23.out) GB23.out) GB23.out) GB23.out : Below w.heap.size w w27)); clear hg hw hp_))
          go_roundg k3
          case measure => have := HJ2.out; have := HK2.out; have := HK3.out; omega
          case rel => exact ⟨(y167), (wrap64 (x7_3 + 1)), (by first | rfl | (simp; done) | (simp [*]; done)), H', ⟨by have := HJ2.out; have := HK2.out; have := HK3.out; omega⟩, ⟨rk_ HO_5.out⟩, ⟨bl_ HB.out⟩⟩
         ·rw [if_neg c20] at H
          have c20b0 : decide (x7_3 < (x5_3.length : Int)) = false := decide_eq_false c20
          clear c20
          by_cases c28 : 0 ≤ (l0.length : Int)
          case neg =>
           rw [if_neg c28] at H
           exact absurd H (by simp)
          rw [if_pos c28] at H
          have c28b0 := eq_true c28
          have c28b1 : decide (0 ≤ (l0.length : Int)) = true := decide_eq_true c28
          clear c28
          by_cases c29 : (l0.length : Int) ≤ (x5_3.length : Int)
          case neg =>
           rw [if_neg c29] at H
           exact absurd H (by simp)
          rw [if_pos c29] at H
          have c29b0 := eq_true c29
          have c29b1 : decide ((l0.length : Int) ≤ (x5_3.length : Int)) = true := decide_eq_true c29
          clear c29
          obtain ⟨y168, hy168⟩ : ∃ y_ : List (S177), y_ = (x5_3.take ((l0.length : Int) : Int).toNat) := ⟨_, rfl⟩
          replace H : (some y168) = some r := by first | (rw [hy168]; with_reducible exact H) | (have H2_ := (Option.bind_some _ _).symm.trans H; rw [hy168]; with_reducible exact H2_) | (have H2_ := (Option.bind_some _ _).symm.trans H; with_reducible exact H2_) | with_reducible exact H | (rw [hy168]; exact H) | exact H
          have Ny168 := Aside0.mk hy168
          clear hy168
          obtain rfl := Option.some.inj H
          obtain ⟨Ao30, co30, eo30⟩ := Kd.R_slice HO_5.out
          subst eo30
          have q31 : ((l0.length : Int) : Int) ≤ ((x5_3.length : Int) : Int) := od_
          obtain ⟨i031, hi031, _, hsz31, _⟩ := info_parts info177
          have hcut31 := cut_to (P := Try.prog) 104 177 .i64 Try.underlying104 hi031 Ao30 x5_3.length co30 (l0.length : Int) od_ q31 (Kd.R_reads' HO_5.out).2.1
          have hr31 := Kd.R_take (m := ((l0.length : Int) : Int).toNat) HO_5.out (by omega)
          have hy31 : y168.length = ((l0.length : Int) : Int).toNat := (by rw [Ny168.out, List.length_take]; omega)
          rw [← Ny168.out] at hr31
          rw [← hy31] at hr31 hcut31
          clear hy31 hi031 hsz31 HO_5
          have HO170 := Aside0.mk hr31
          clear hr31
          replace q31 := eq_true q31
          go_wp2
          go_ret
          exact ⟨_, by first | rfl | (simp [errW_none, errW_some] <;> rfl) | (simp only [← hji7]; first | rfl | (simp [errW_none, errW_some] <;> rfl)) | (simp [*, errW_none, errW_some] <;> rfl), rk_ HO170.out, bl_ HB.out⟩
mutual
def laws_toInt64S.j0 : Nat → List Int → Bool → Option (List Int)
 | 0, _, _ => none
 | k + 1, x0, x13 => if x13 = true then (some ([] : List Int)) else ((laws_roomBehind.f (x0.length : Int)).bind fun t171 => (if 0 ≤ (wrap64 ((x0.length : Int) + t171)) then (if (wrap64 ((x0.length : Int) + t171) : Int).toNat ≤ 35184372088832 then (laws_toInt64S.l0 k x0 (List.replicate (wrap64 ((x0.length : Int) + t171) : Int).toNat 0) 0) else (none)) else (none)))
def laws_toInt64S.l0 : Nat → List Int → List Int → Int → Option (List Int)
 | 0, _, _, _ => none
 | k + 1, x0, x5, x6 => if x6 < (x0.length : Int) then (if 0 ≤ x6 then (if x6 < (x5.length : Int) then (laws_toInt64S.l0 k x0 (x5.set (x6 : Int).toNat (rd x0 x6)) (wrap64 (x6 + 1))) else (none)) else (none)) else (laws_toInt64S.l1 k x0 x5 (x0.length : Int))
def laws_toInt64S.l1 : Nat → List Int → List Int → Int → Option (List Int)
 | 0, _, _, _ => none
 | k + 1, x0, x5, x7 => if x7 < (x5.length : Int) then (if 0 ≤ x7 then (laws_toInt64S.l1 k x0 (x5.set (x7 : Int).toNat (-7000000000000000101)) (wrap64 (x7 + 1))) else (none)) else (if 0 ≤ (x0.length : Int) then (if (x0.length : Int) ≤ (x5.length : Int) then (some (x5.take ((x0.length : Int) : Int).toNat)) else (none)) else (none))
end
def laws_toInt64S.f (k : Nat) (l0 : List Int) (a1 : Bool) : Option (List Int) := if a1 = true then (laws_toInt64S.j0 k l0 ((l0.length : Int) == 0)) else (laws_toInt64S.j0 k l0 false)
theorem laws_toInt64S.mono_l : ∀ k, (∀ y0 y1, LeO (laws_toInt64S.j0 k y0 y1) (laws_toInt64S.j0 (k + 1) y0 y1)) ∧ (∀ y0 y1 y2, LeO (laws_toInt64S.l0 k y0 y1 y2) (laws_toInt64S.l0 (k + 1) y0 y1 y2)) ∧ (∀ y0 y1 y2, LeO (laws_toInt64S.l1 k y0 y1 y2) (laws_toInt64S.l1 (k + 1) y0 y1 y2))
 | 0 => ⟨fun _ _ r h => by simp [laws_toInt64S.j0] at h, fun _ _ _ r h => by simp [laws_toInt64S.l0] at h, fun _ _ _ r h => by simp [laws_toInt64S.l1] at h⟩
 | k + 1 => by
  obtain ⟨ih0, ih1, ih2⟩ := laws_toInt64S.mono_l k
  refine ⟨?_, ?_, ?_⟩
  ·intro y0 y1
   unfold laws_toInt64S.j0
   repeat' first
   | (with_reducible exact ih0 _ _)
   | (with_reducible exact ih1 _ _ _)
   | (with_reducible exact ih2 _ _ _)
   | (with_reducible exact LeO.refl _)
   | (with_reducible exact LeO.none _)
   | (with_reducible refine LeO.ite ?_ ?_)
   | (with_reducible refine LeO.bind ?_ (fun _ => ?_))
   | exact ih0 _ _
   | exact ih1 _ _ _
   | exact ih2 _ _ _
   | exact LeO.none _
   | refine LeO.ite ?_ ?_
   | refine LeO.bind ?_ (fun _ => ?_)
  ·intro y0 y1 y2
   unfold laws_toInt64S.l0
   repeat' first
   | (with_reducible exact ih0 _ _)
   | (with_reducible exact ih1 _ _ _)
   | (with_reducible exact ih2 _ _ _)
   | (with_reducible exact LeO.refl _)
   | (with_reducible exact LeO.none _)
   | (with_reducible refine LeO.ite ?_ ?_)
   | (with_reducible refine LeO.bind ?_ (fun _ => ?_))
   | exact ih0 _ _
   | exact ih1 _ _ _
   | exact ih2 _ _ _
   | exact LeO.none _
   | refine LeO.ite ?_ ?_
   | refine LeO.bind ?_ (fun _ => ?_)
  ·intro y0 y1 y2
   unfold laws_toInt64S.l1
   repeat' first
   | (with_reducible exact ih0 _ _)
   | (with_reducible exact ih1 _ _ _)
   | (with_reducible exact ih2 _ _ _)
   | (with_reducible exact LeO.refl _)
   | (with_reducible exact LeO.none _)
   | (with_reducible refine LeO.ite ?_ ?_)
   | (with_reducible refine LeO.bind ?_ (fun _ => ?_))
   | exact ih0 _ _
   | exact ih1 _ _ _
   | exact ih2 _ _ _
   | exact LeO.none _
   | refine LeO.ite ?_ ?_
   | refine LeO.bind ?_ (fun _ => ?_)
theorem laws_toInt64S.mono : ∀ a0 a1 k, LeO (laws_toInt64S.f k a0 a1) (laws_toInt64S.f (k + 1) a0 a1) := by
 intro a0 a1 k
 obtain ⟨ih0, ih1, ih2⟩ := laws_toInt64S.mono_l k
 unfold laws_toInt64S.f
 repeat' first
   | (with_reducible exact ih0 _ _)
   | (with_reducible exact ih1 _ _ _)
   | (with_reducible exact ih2 _ _ _)
   | (with_reducible exact LeO.refl _)
   | (with_reducible exact LeO.none _)
   | (with_reducible refine LeO.ite ?_ ?_)
   | (with_reducible refine LeO.bind ?_ (fun _ => ?_))
   | exact ih0 _ _
   | exact ih1 _ _ _
   | exact ih2 _ _ _
   | exact LeO.none _
   | refine LeO.ite ?_ ?_
   | refine LeO.bind ?_ (fun _ => ?_)
set_option maxHeartbeats 8000000 in
set_option maxRecDepth 100000 in
theorem laws_toInt64S.calls (k : Nat) (A0 : Option Addr) (c0 : Nat) (l0 : List Int) (a1 : Bool) (r : List Int) (w : World) (hr0 : Kd.C (Kd.int .i64) w A0 l0.length l0) (hc0 : l0.length ≤ c0) (h : laws_toInt64S.f k l0 a1 = some r) :
  Calls Try.prog 41 #[.slice A0 l0.length c0, .bool a1] w fun e w' => ∃ v0_ : Value, e = .returned (v0_) ∧ Kd.R (Kd.int .i64) 2 w' w.heap.size (fun _ => True) v0_ r ∧ Below w.heap.size w w' := by
 have HR0 := Aside0.mk hr0
 have HC0 := Aside0.mk hc0
 clear hr0 hc0
 have HB := Aside0.mk (Below.refl w.heap.size w)
 have H : (if a1 = true then (laws_toInt64S.j0 k l0 ((l0.length : Int) == 0)) else (laws_toInt64S.j0 k l0 false)) = some r := h
 clear h
 have HC3 := Aside0.mk H
 clear H
 go_enter Try.func41, Try.ntmps41
 go_upto_region 1 with (fail)
 go_cut [13] (fun v13 wc => ∃ (kq : Nat) (x13_2 : Bool), v13 = .bool x13_2 ∧ Aside0 (laws_toInt64S.j0 kq l0 x13_2 = some r) ∧ Aside0 (kq ≤ k) ∧ Aside0 (Below w.heap.size w wc))
 case first =>
  have H := HC3.out
  clear HC3
  by_cases c4 : a1 = true
  ·subst c4
   replace H : (laws_toInt64S.j0 k l0 ((l0.length : Int) == 0)) = some r := by rw [if_pos rfl] at H; exact H
   have H' := Aside0.mk H
   clear H
   go_wp2
   go_meet
   case rel => exact ⟨_, (((l0.length : Int) == 0)), (by first | rfl | (simp; done) | (simp [*]; done)), H', ⟨by first | omega | exact Nat.le_refl _⟩, ⟨bl_ HB.out⟩⟩
  ·replace c4 := Bool.eq_false_iff.mpr c4
   subst c4
   replace H : (laws_toInt64S.j0 k l0 false) = some r := by rw [if_neg (show ¬ (false = true) by decide)] at H; exact H
   have H' := Aside0.mk H
   clear H
   go_wp2
   go_meet
   case rel => exact ⟨_, (false), (by first | rfl | (simp; done) | (simp [*]; done)), H', ⟨by first | omega | exact Nat.le_refl _⟩, ⟨bl_ HB.out⟩⟩
 case rest =>
  clear HC3
  try clear p2
  try clear c4
  obtain ⟨kq, x13_2, rfl, HA, HJ2, HB⟩ := hcut
  cases kq with
  | zero => exact absurd HA.out (by simp [laws_toInt64S.j0])
  | succ kj2 =>
   have H := HA.out
   clear HA
   simp only [laws_toInt64S.j0] at H
   by_cases c5 : x13_2 = true
   ·subst c5
    replace H : (some ([] : List Int)) = some r := by rw [if_pos rfl] at H; exact H
    obtain rfl := Option.some.inj H
    go_wp2
    go_ret
    exact ⟨_, by first | rfl | (simp [errW_none, errW_some] <;> rfl) | (simp [*, errW_none, errW_some] <;> rfl), by first | exact Kd.R_nil _ _ _ _ _ | exact Kd.N_nil _ _ _ _ _ | exact Kd.V_nil _ _ _ _ _ | exact Kd.Q_nil _ _ _ _ _ | exact Kd.S_nil _ _ _ _ _, bl_ HB.out⟩
   ·replace c5 := Bool.eq_false_iff.mpr c5
    subst c5
    replace H : ((laws_roomBehind.f (l0.length : Int)).bind fun t171 => (if 0 ≤ (wrap64 ((l0.length : Int) + t171)) then (if (wrap64 ((l0.length : Int) + t171) : Int).toNat ≤ 35184372088832 then (laws_toInt64S.l0 kj2 l0 (List.replicate (wrap64 ((l0.length : Int) + t171) : Int).toNat 0) 0) else (none)) else (none))) = some r := by rw [if_neg (show ¬ (false = true) by decide)] at H; exact H
    replace H := Option.bind_eq_some_iff.mp H
    obtain ⟨t171, A60, H⟩ := H
    replace H : (if 0 ≤ (wrap64 ((l0.length : Int) + t171)) then (if (wrap64 ((l0.length : Int) + t171) : Int).toNat ≤ 35184372088832 then (laws_toInt64S.l0 kj2 l0 (List.replicate (wrap64 ((l0.length : Int) + t171) : Int).toNat 0) 0) else (none)) else (none)) = some r := H
    have A6 := Aside0.mk A60
    clear A60
    obtain ⟨ji7, hji7⟩ : ∃ j_ : Int, (wrap64 ((l0.length : Int) + t171)) = j_ := ⟨_, rfl⟩
    replace H : (if 0 ≤ (ji7) then (if (ji7 : Int).toNat ≤ 35184372088832 then (laws_toInt64S.l0 kj2 l0 (List.replicate (ji7 : Int).toNat 0) 0) else (none)) else (none)) = some r := by first | (rw [hji7] at H; exact H) | (simp only [hji7] at H ⊢; exact H)
    (try rw [hji7] at A6)
    have hji7w : (IntKind.i64.wrap ((l0.length : Int) + t171)) = ji7 := (i64_w _).trans hji7
    by_cases c8 : 0 ≤ (ji7)
    case neg =>
     rw [if_neg c8] at H
     exact absurd H (by simp)


    rw [if_pos c8] at H
    have c8b0 := eq_true c8
    have c8b1 : decide (0 ≤ (ji7)) = true := decide_eq_true c8
    clear c8
    by_cases c9 : (ji7 : Int).toNat ≤ 35184372088832
    case neg =>
     rw [if_neg c9] at H
     exact absurd H (by simp)
    rw [if_pos c9] at H
    have c9b0 := eq_true c9
    have c9b1 : decide ((ji7 : Int).toNat ≤ 35184372088832) = true := decide_eq_true c9
    clear c9
    obtain ⟨y172, hy172⟩ : ∃ y_ : List Int, y_ = (List.replicate (ji7 : Int).toNat 0) := ⟨_, rfl⟩
    replace H : (laws_toInt64S.l0 kj2 l0 y172 0) = some r := by first | (rw [hy172]; with_reducible exact H) | (have H2_ := (Option.bind_some _ _).symm.trans H; rw [hy172]; with_reducible exact H2_) | (have H2_ := (Option.bind_some _ _).symm.trans H; with_reducible exact H2_) | with_reducible exact H | (rw [hy172]; exact H) | exact H
    have Ny172 := Aside0.mk hy172
    clear hy172
    have H' := Aside0.mk H
    clear H
    go_wp2_with (first | ((with_reducible refine gate_callee (f := 120) rfl ?_); refine goesL_ (some 18) rfl rfl Try.func120 (by kernel_rfl) rfl #[.int .i64 (l0.length : Int)] rfl ag_ ?_; (with_reducible refine (laws_roomBehind.calls (l0.length : Int) t171 _ A6.out).mono ?_); rintro e w' ⟨rfl, ⟨nd, rfl⟩⟩; refine ⟨_, rfl, ?_⟩) | ((with_reducible refine gate_dst (N := 20) rfl ?_); (try (refine gate_guard (by rfl) ?_; dsimp only)); refine Kd.R_make (Kd.int .i64) _ 2 rfl (N := 20) rfl 24 _ _ rfl ji7 rfl rfl Try.underlying24 (.int .i64 0) 8 info2 rfl (by decide) (by omega) 0 (ok := fun _ => True) (okp := fun _ => True) rfl (fun _ hk => hk) trivial od_ (Nat.le_trans (Nat.mul_le_mul_right _ (od_ : ji7.toNat ≤ 35184372088832)) (by omega)) (Below.refl _ _) (Nat.le_refl _) ?_; intro v173 w10 ho11 hb hg_ hnew_; clear hg_ hnew_; (first | rw [← Ny172.out] at ho11 | (simp only [Int.reduceToNat] at ho11; rw [← Ny172.out] at ho11)); have HO174 := Aside0.mk (Kd.R_lower ho11 (below_size (bl_ HB.out))); replace HB := Aside0.mk (below_step (bl_ HB.out) hb); clear hb ho11))
    go_loopg [6] kj2 (fun kq v6 w' => ∃ (x5_2 : List Int) (x6_2 : Int), v6 = .int .i64 x6_2 ∧ Aside0 (laws_toInt64S.l0 kq l0 x5_2 x6_2 = some r) ∧ Aside0 (kq ≤ kj2) ∧ Aside0 (Kd.R (Kd.int .i64) 2 w' w.heap.size (fun _ => True) v173 x5_2) ∧ Aside0 (Below w.heap.size w w'))
    case atStart => exact ⟨(y172), (0), (by first | rfl | (simp; done) | (simp [*]; done)), H', ⟨Nat.le_refl _⟩, ⟨rk_ HO174.out⟩, ⟨bl_ HB.out⟩⟩
    case round =>
     clear H'
     try clear c1
     try clear p2
     try clear c4
     try clear c5
     try clear p6
     try clear c8
     try clear c8b0
     try clear c8b1
     try clear c9
     try clear c9b0
     try clear c9b1
     try clear p2
     obtain ⟨x5_2, x6_2, rfl, HA, HK2, HO_5, HB⟩ := hrel
     cases gk with
     | zero => exact absurd HA.out (by simp [laws_toInt64S.l0])
     | succ k2 =>
      have H := HA.out
      clear HA
      simp only [laws_toInt64S.l0] at H
      by_cases c12 : x6_2 < (l0.length : Int)
      ·rw [if_pos c12] at H
       have c12b0 : decide (x6_2 < (l0.length : Int)) = true := decide_eq_true c12
       clear c12
       by_cases c13 : 0 ≤ x6_2
       case neg =>
        rw [if_neg c13] at H
        exact absurd H (by simp)
       rw [if_pos c13] at H
       have c13b0 : decide (0 ≤ x6_2) = true := decide_eq_true c13
       clear c13
       by_cases c14 : x6_2 < (x5_2.length : Int)
       case neg =>
        rw [if_neg c14] at H
        exact absurd H (by simp)
       rw [if_pos c14] at H
       have c14b0 : decide (x6_2 < (x5_2.length : Int)) = true := decide_eq_true c14
       clear c14
       obtain ⟨y176, hy176⟩ : ∃ y_ : List Int, y_ = (x5_2.set (x6_2 : Int).toNat (rd l0 x6_2)) := ⟨_, rfl⟩
       replace H : (laws_toInt64S.l0 k2 l0 y176 (wrap64 (x6_2 + 1))) = some r := by first | (rw [hy176]; with_reducible exact H) | (have H2_ := (Option.bind_some _ _).symm.trans H; rw [hy176]; with_reducible exact H2_) | (have H2_ := (Option.bind_some _ _).symm.trans H; with_reducible exact H2_) | with_reducible exact H | (rw [hy176]; exact H) | exact H
       have Ny176 := Aside0.mk hy176
       clear hy176
       have H' := Aside0.mk H
       clear H
       have p175 : 0 ≤ (x6_2 : Int) := od_
       have q175 : x6_2 < (l0.length : Int) := od_
       obtain ⟨ad175, e175, hx175_0⟩ := Kd.at_int HR0.out x6_2 p175 q175
       cases e175
       replace hx175_0 := bc_ HB.out hx175_0
       replace p175 := eq_true p175
       replace q175 := eq_true q175
       have p15 : 0 ≤ (x6_2 : Int) := od_
       have q15 : (x6_2 : Int) < ((x5_2.length : Int) : Int) := od_
       obtain ⟨go15, co15, eo15, gb15, gl15, cl15, HG15⟩ := Kd.R_form HO_5.out (by omega)
       (first | cases eo15 | (injection eo15 with ea_ en_ ec_; (first | subst ea_ | (injection ea_ with ea_; subst ea_)); subst ec_; clear en_))
       have GB15 := Aside0.mk gb15
       have GG15 := Aside0.mk HG15
       clear gb15 gl15 HG15
       obtain ⟨hx15_0, hf15_0⟩ := Kd.R_celln 0 HO_5.out (x6_2 : Int) p15 q15
       replace p15 := eq_true p15
       replace q15 := eq_true q15
       have HP16 := Kd.R_putg HO_5.out (x6_2 : Int) (rd l0 x6_2)
       go_wp2_with (first | ((with_reducible refine gate_store (t := 2) (p := 33) rfl ?_); refine store_event (t := 2) (p := 33) (v := ?vo_w17) (w1 := (wr.setCell ⟨go15, (x6_2 : Int).toNat, none⟩ (.int .i64 (rd l0 x6_2)))) ?hg ?ho ?hn ?hr ?_; (case ho => rfl); (case hg => rfl); (case hn => rfl); (case hr => first | (go_simp; done) | (go_simp; rfl)); intro w17 hw; have hg : wr.grownBy w17 (some go15) := (by rw [hw]; exact HP16.2); have hp_ : Kd.R (Kd.int .i64) 2 w17 w.heap.size (fun _ => True) (.slice (some ⟨go15, 0, none⟩) x5_2.length co15) y176 := (by rw [hw, Ny176.out]; exact HP16.1); clear HP16; replace HO_5 := Aside0.mk (hp_); replace HB := Aside0.mk ((by rw [hw]; exact below_set (HB.out) GB15.out : Below w.heap.size w w17)); clear hg hw hp_))
       go_roundg k2
       case measure => have := HJ2.out; have := HK2.out; omega
       case rel => exact ⟨(y176), (wrap64 (x6_2 + 1)), (by first | rfl | (simp; done) | (simp [*]; done)), H', ⟨by have := HJ2.out; have := HK2.out; omega⟩, ⟨rk_ HO_5.out⟩, ⟨bl_ HB.out⟩⟩
      ·rw [if_neg c12] at H
       have c12b0 : decide (x6_2 < (l0.length : Int)) = false := decide_eq_false c12
       clear c12
       have H' := Aside0.mk H
       clear H
       go_wp2
       go_loopg [7] k2 (fun kq v7 w' => ∃ (x5_3 : List Int) (x7_3 : Int), v7 = .int .i64 x7_3 ∧ Aside0 (laws_toInt64S.l1 kq l0 x5_3 x7_3 = some r) ∧ Aside0 (kq ≤ k2) ∧ Aside0 (Kd.R (Kd.int .i64) 2 w' w.heap.size (fun _ => True) v173 x5_3) ∧ Aside0 (Below w.heap.size w w'))
       case atStart => exact ⟨(x5_2), ((l0.length : Int)), (by first | rfl | (simp; done) | (simp [*]; done)), H', ⟨Nat.le_refl _⟩, ⟨rk_ HO_5.out⟩, ⟨bl_ HB.out⟩⟩
       case round =>
        clear H'
        try clear c1
        try clear p1
        try clear q1
        try clear hx1
        try clear p2
        try clear c4
        try clear c5
        try clear p6
        try clear c8
        try clear c8b0
        try clear c8b1
        try clear c9
        try clear c9b0
        try clear c9b1
        try clear c12
        try clear c12b0
        try clear c13
        try clear c13b0
        try clear c14
        try clear c14b0
        try clear p15
        try clear q15
        try clear hx15
        try clear hf15
        try clear p17
        try clear q17
        try clear hx17
        try clear hx15_0
        try clear hx175_0
        try clear p15
        try clear p175
        try clear p2
        try clear p6
        try clear q15
        try clear q175
        obtain ⟨x5_3, x7_3, rfl, HA, HK3, HO_5, HB⟩ := hrel
        cases gk with
        | zero => exact absurd HA.out (by simp [laws_toInt64S.l1])
        | succ k3 =>
         have H := HA.out
         clear HA
         simp only [laws_toInt64S.l1] at H
         by_cases c18 : x7_3 < (x5_3.length : Int)
         ·rw [if_pos c18] at H
          have c18b0 : decide (x7_3 < (x5_3.length : Int)) = true := decide_eq_true c18
          clear c18
          by_cases c19 : 0 ≤ x7_3
          case neg =>
           rw [if_neg c19] at H
           exact absurd H (by simp)
          rw [if_pos c19] at H
          have c19b0 : decide (0 ≤ x7_3) = true := decide_eq_true c19
          clear c19
          obtain ⟨y177, hy177⟩ : ∃ y_ : List Int, y_ = (x5_3.set (x7_3 : Int).toNat (-7000000000000000101)) := ⟨_, rfl⟩
          replace H : (laws_toInt64S.l1 k3 l0 y177 (wrap64 (x7_3 + 1))) = some r := by first | (rw [hy177]; with_reducible exact H) | (have H2_ := (Option.bind_some _ _).symm.trans H; rw [hy177]; with_reducible exact H2_) | (have H2_ := (Option.bind_some _ _).symm.trans H; with_reducible exact H2_) | with_reducible exact H | (rw [hy177]; exact H) | exact H
          have Ny177 := Aside0.mk hy177
          clear hy177
          have H' := Aside0.mk H
          clear H
          obtain ⟨Ao21, co21, eo21⟩ := Kd.R_slice HO_5.out
          subst eo21
          have p20 : 0 ≤ (x7_3 : Int) := od_
          have q20 : (x7_3 : Int) < ((x5_3.length : Int) : Int) := od_
          obtain ⟨go20, co20, eo20, gb20, gl20, cl20, HG20⟩ := Kd.R_form HO_5.out (by omega)
          (first | cases eo20 | (injection eo20 with ea_ en_ ec_; (first | subst ea_ | (injection ea_ with ea_; subst ea_)); subst ec_; clear en_))
          have GB20 := Aside0.mk gb20
          have GG20 := Aside0.mk HG20
          clear gb20 gl20 HG20
          obtain ⟨hx20_0, hf20_0⟩ := Kd.R_celln 0 HO_5.out (x7_3 : Int) p20 q20
          replace p20 := eq_true p20
          replace q20 := eq_true q20
          have HP22 := Kd.R_putg HO_5.out (x7_3 : Int) (-7000000000000000101)
          go_wp2_with (first | ((with_reducible refine gate_store (t := 2) (p := 44) rfl ?_); refine store_event (t := 2) (p := 44) (v := ?vo_w23) (w1 := (wr.setCell ⟨go20, (x7_3 : Int).toNat, none⟩ (.int .i64 (-7000000000000000101)))) ?hg ?ho ?hn ?hr ?_; (case ho => rfl); (case hg => rfl); (case hn => rfl); (case hr => first | (go_simp; done) | (go_simp; rfl)); intro w23 hw; have hg : wr.grownBy w23 (some go20) := (by rw [hw]; exact HP22.2); have hp_ : Kd.R (Kd.int .i64) 2 w23 w.heap.size (fun _ => True) (.slice (some ⟨go20, 0, none⟩) x5_3.length co21) y177 := (by rw [hw, Ny177.out]; exact HP22.1); clear HP22; replace HO_5 := Aside0.mk (hp_); replace HB := Aside0.mk ((by rw [hw]; exact below_set (HB.out) GB20.out : Below w.heap.size w w23)); clear hg hw hp_))
          go_roundg k3
          case measure => have := HJ2.out; have := HK2.out; have := HK3.out; omega
          case rel => exact ⟨(y177), (wrap64 (x7_3 + 1)), (by first | rfl | (simp; done) | (simp [*]; done)), H', ⟨by have := HJ2.out; have := HK2.out; have := HK3.out; omega⟩, ⟨rk_ HO_5.out⟩, ⟨bl_ HB.out⟩⟩
         ·rw [if_neg c18] at H
          have c18b0 : decide (x7_3 < (x5_3.length : Int)) = false := decide_eq_false c18
          clear c18
          by_cases c24 : 0 ≤ (l0.length : Int)
          case neg =>
           rw [if_neg c24] at H
           exact absurd H (by simp)
          rw [if_pos c24] at H
          have c24b0 := eq_true c24
          have c24b1 : decide (0 ≤ (l0.length : Int)) = true := decide_eq_true c24
          clear c24
          by_cases c25 : (l0.length : Int) ≤ (x5_3.length : Int)
          case neg =>
           rw [if_neg c25] at H
           exact absurd H (by simp)
          rw [if_pos c25] at H
          have c25b0 := eq_true c25
          have c25b1 : decide ((l0.length : Int) ≤ (x5_3.length : Int)) = true := decide_eq_true c25
          clear c25
          obtain ⟨y178, hy178⟩ : ∃ y_ : List Int, y_ = (x5_3.take ((l0.length : Int) : Int).toNat) := ⟨_, rfl⟩
          replace H : (some y178) = some r := by first | (rw [hy178]; with_reducible exact H) | (have H2_ := (Option.bind_some _ _).symm.trans H; rw [hy178]; with_reducible exact H2_) | (have H2_ := (Option.bind_some _ _).symm.trans H; with_reducible exact H2_) | with_reducible exact H | (rw [hy178]; exact H) | exact H
          have Ny178 := Aside0.mk hy178
          clear hy178
          obtain rfl := Option.some.inj H
          obtain ⟨Ao26, co26, eo26⟩ := Kd.R_slice HO_5.out
          subst eo26
          have q27 : ((l0.length : Int) : Int) ≤ ((x5_3.length : Int) : Int) := od_
          obtain ⟨i027, hi027, _, hsz27, _⟩ := info_parts info2
          have hcut27 := cut_to (P := Try.prog) 24 2 .i64 Try.underlying24 hi027 Ao26 x5_3.length co26 (l0.length : Int) od_ q27 (Kd.R_reads' HO_5.out).2.1
          have hr27 := Kd.R_take (m := ((l0.length : Int) : Int).toNat) HO_5.out (by omega)
          have hy27 : y178.length = ((l0.length : Int) : Int).toNat := (by rw [Ny178.out, List.length_take]; omega)
          rw [← Ny178.out] at hr27
          rw [← hy27] at hr27 hcut27
          clear hy27 hi027 hsz27 HO_5
          have HO180 := Aside0.mk hr27
          clear hr27
          replace q27 := eq_true q27
          go_wp2
          go_ret
          exact ⟨_, by first | rfl | (simp [errW_none, errW_some] <;> rfl) | (simp only [← hji7]; first | rfl | (simp [errW_none, errW_some] <;> rfl)) | (simp [*, errW_none, errW_some] <;> rfl), rk_ HO180.out, bl_ HB.out⟩
mutual
def laws_toStringS.j0 : Nat → List ByteArray → Bool → Option (List ByteArray)
 | 0, _, _ => none
 | k + 1, x0, x13 => if x13 = true then (some ([] : List ByteArray)) else ((laws_roomBehind.f (x0.length : Int)).bind fun t181 => (if 0 ≤ (wrap64 ((x0.length : Int) + t181)) then (if (wrap64 ((x0.length : Int) + t181) : Int).toNat ≤ 17592186044416 then (laws_toStringS.l0 k x0 (List.replicate (wrap64 ((x0.length : Int) + t181) : Int).toNat (⟨#[]⟩ : ByteArray)) 0) else (none)) else (none)))
def laws_toStringS.l0 : Nat → List ByteArray → List ByteArray → Int → Option (List ByteArray)
 | 0, _, _, _ => none
 | k + 1, x0, x5, x6 => if x6 < (x0.length : Int) then (if 0 ≤ x6 then (if x6 < (x5.length : Int) then (laws_toStringS.l0 k x0 (x5.set (x6 : Int).toNat (rdOf ByteArray.empty x0 x6)) (wrap64 (x6 + 1))) else (none)) else (none)) else (laws_toStringS.l1 k x0 x5 (x0.length : Int))
def laws_toStringS.l1 : Nat → List ByteArray → List ByteArray → Int → Option (List ByteArray)
 | 0, _, _, _ => none
 | k + 1, x0, x5, x7 => if x7 < (x5.length : Int) then (if 0 ≤ x7 then (laws_toStringS.l1 k x0 (x5.set (x7 : Int).toNat (⟨#[126, 115, 112, 97, 114, 101, 126]⟩ : ByteArray)) (wrap64 (x7 + 1))) else (none)) else (if 0 ≤ (x0.length : Int) then (if (x0.length : Int) ≤ (x5.length : Int) then (some (x5.take ((x0.length : Int) : Int).toNat)) else (none)) else (none))
end
def laws_toStringS.f (k : Nat) (l0 : List ByteArray) (a1 : Bool) : Option (List ByteArray) := if a1 = true then (laws_toStringS.j0 k l0 ((l0.length : Int) == 0)) else (laws_toStringS.j0 k l0 false)
theorem laws_toStringS.mono_l : ∀ k, (∀ y0 y1, LeO (laws_toStringS.j0 k y0 y1) (laws_toStringS.j0 (k + 1) y0 y1)) ∧ (∀ y0 y1 y2, LeO (laws_toStringS.l0 k y0 y1 y2) (laws_toStringS.l0 (k + 1) y0 y1 y2)) ∧ (∀ y0 y1 y2, LeO (laws_toStringS.l1 k y0 y1 y2) (laws_toStringS.l1 (k + 1) y0 y1 y2))
 | 0 => ⟨fun _ _ r h => by simp [laws_toStringS.j0] at h, fun _ _ _ r h => by simp [laws_toStringS.l0] at h, fun _ _ _ r h => by simp [laws_toStringS.l1] at h⟩
 | k + 1 => by
  obtain ⟨ih0, ih1, ih2⟩ := laws_toStringS.mono_l k
  refine ⟨?_, ?_, ?_⟩
  ·intro y0 y1
   unfold laws_toStringS.j0
   repeat' first
   | (with_reducible exact ih0 _ _)
   | (with_reducible exact ih1 _ _ _)
   | (with_reducible exact ih2 _ _ _)
   | (with_reducible exact LeO.refl _)
   | (with_reducible exact LeO.none _)
   | (with_reducible refine LeO.ite ?_ ?_)
   | (with_reducible refine LeO.bind ?_ (fun _ => ?_))
   | exact ih0 _ _
   | exact ih1 _ _ _
   | exact ih2 _ _ _
   | exact LeO.none _
   | refine LeO.ite ?_ ?_
   | refine LeO.bind ?_ (fun _ => ?_)
  ·intro y0 y1 y2
   unfold laws_toStringS.l0
   repeat' first
   | (with_reducible exact ih0 _ _)
   | (with_reducible exact ih1 _ _ _)
   | (with_reducible exact ih2 _ _ _)
   | (with_reducible exact LeO.refl _)
   | (with_reducible exact LeO.none _)
   | (with_reducible refine LeO.ite ?_ ?_)
   | (with_reducible refine LeO.bind ?_ (fun _ => ?_))
   | exact ih0 _ _
   | exact ih1 _ _ _
   | exact ih2 _ _ _
   | exact LeO.none _
   | refine LeO.ite ?_ ?_
   | refine LeO.bind ?_ (fun _ => ?_)
  ·intro y0 y1 y2
   unfold laws_toStringS.l1
   repeat' first
   | (with_reducible exact ih0 _ _)
   | (with_reducible exact ih1 _ _ _)
   | (with_reducible exact ih2 _ _ _)
   | (with_reducible exact LeO.refl _)
   | (with_reducible exact LeO.none _)
   | (with_reducible refine LeO.ite ?_ ?_)
   | (with_reducible refine LeO.bind ?_ (fun _ => ?_))
   | exact ih0 _ _
   | exact ih1 _ _ _
   | exact ih2 _ _ _
   | exact LeO.none _
   | refine LeO.ite ?_ ?_
   | refine LeO.bind ?_ (fun _ => ?_)
theorem laws_toStringS.mono : ∀ a0 a1 k, LeO (laws_toStringS.f k a0 a1) (laws_toStringS.f (k + 1) a0 a1) := by
 intro a0 a1 k
 obtain ⟨ih0, ih1, ih2⟩ := laws_toStringS.mono_l k
 unfold laws_toStringS.f
 repeat' first
   | (with_reducible exact ih0 _ _)
   | (with_reducible exact ih1 _ _ _)
   | (with_reducible exact ih2 _ _ _)
   | (with_reducible exact LeO.refl _)
   | (with_reducible exact LeO.none _)
   | (with_reducible refine LeO.ite ?_ ?_)
   | (with_reducible refine LeO.bind ?_ (fun _ => ?_))
   | exact ih0 _ _
   | exact ih1 _ _ _
   | exact ih2 _ _ _
   | exact LeO.none _
   | refine LeO.ite ?_ ?_
   | refine LeO.bind ?_ (fun _ => ?_)
set_option maxHeartbeats 8000000 in
set_option maxRecDepth 100000 in
theorem laws_toStringS.calls (k : Nat) (A0 : Option Addr) (c0 : Nat) (l0 : List ByteArray) (a1 : Bool) (r : List ByteArray) (w : World) (hr0 : Kd.C Kd.string w A0 l0.length l0) (hc0 : l0.length ≤ c0) (h : laws_toStringS.f k l0 a1 = some r) :
  Calls Try.prog 170 #[.slice A0 l0.length c0, .bool a1] w fun e w' => ∃ v0_ : Value, e = .returned (v0_) ∧ Kd.R Kd.string 9 w' w.heap.size (fun _ => True) v0_ r ∧ Below w.heap.size w w' := by
 have HR0 := Aside0.mk hr0
 have HC0 := Aside0.mk hc0
 clear hr0 hc0
 have HB := Aside0.mk (Below.refl w.heap.size w)
 have H : (if a1 = true then (laws_toStringS.j0 k l0 ((l0.length : Int) == 0)) else (laws_toStringS.j0 k l0 false)) = some r := h
 clear h
 have HC3 := Aside0.mk H
 clear H
 go_enter Try.func170, Try.ntmps170
 go_upto_region 1 with (fail)
 go_cut [13] (fun v13 wc => ∃ (kq : Nat) (x13_2 : Bool), v13 = .bool x13_2 ∧ Aside0 (laws_toStringS.j0 kq l0 x13_2 = some r) ∧ Aside0 (kq ≤ k) ∧ Aside0 (Below w.heap.size w wc))
 case first =>
  have H := HC3.out
  clear HC3
  by_cases c4 : a1 = true
  ·subst c4
   replace H : (laws_toStringS.j0 k l0 ((l0.length : Int) == 0)) = some r := by rw [if_pos rfl] at H; exact H
   have H' := Aside0.mk H
   clear H
   go_wp2
   go_meet
   case rel => exact ⟨_, (((l0.length : Int) == 0)), (by first | rfl | (simp; done) | (simp [*]; done)), H', ⟨by first | omega | exact Nat.le_refl _⟩, ⟨bl_ HB.out⟩⟩
  ·replace c4 := Bool.eq_false_iff.mpr c4
   subst c4
   replace H : (laws_toStringS.j0 k l0 false) = some r := by rw [if_neg (show ¬ (false = true) by decide)] at H; exact H
   have H' := Aside0.mk H
   clear H
   go_wp2
   go_meet
   case rel => exact ⟨_, (false), (by first | rfl | (simp; done) | (simp [*]; done)), H', ⟨by first | omega | exact Nat.le_refl _⟩, ⟨bl_ HB.out⟩⟩
 case rest =>
  clear HC3
  try clear c1
  try clear p2
  try clear c4
  obtain ⟨kq, x13_2, rfl, HA, HJ2, HB⟩ := hcut
  cases kq with
  | zero => exact absurd HA.out (by simp [laws_toStringS.j0])
  | succ kj2 =>
   have H := HA.out
   clear HA
   simp only [laws_toStringS.j0] at H
   by_cases c5 : x13_2 = true
   ·subst c5
    replace H : (some ([] : List ByteArray)) = some r := by rw [if_pos rfl] at H; exact H
    obtain rfl := Option.some.inj H
    go_wp2
    go_ret
    exact ⟨_, by first | rfl | (simp [errW_none, errW_some] <;> rfl) | (simp [*, errW_none, errW_some] <;> rfl), by first | exact Kd.R_nil _ _ _ _ _ | exact Kd.N_nil _ _ _ _ _ | exact Kd.V_nil _ _ _ _ _ | exact Kd.Q_nil _ _ _ _ _ | exact Kd.S_nil _ _ _ _ _, bl_ HB.out⟩
   ·replace c5 := Bool.eq_false_iff.mpr c5
    subst c5
    replace H : ((laws_roomBehind.f (l0.length : Int)).bind fun t181 => (if 0 ≤ (wrap64 ((l0.length : Int) + t181)) then (if (wrap64 ((l0.length : Int) + t181) : Int).toNat ≤ 17592186044416 then (laws_toStringS.l0 kj2 l0 (List.replicate (wrap64 ((l0.length : Int) + t181) : Int).toNat (⟨#[]⟩ : ByteArray)) 0) else (none)) else (none))) = some r := by rw [if_neg (show ¬ (false = true) by decide)] at H; exact H
    replace H := Option.bind_eq_some_iff.mp H
    obtain ⟨t181, A60, H⟩ := H
    replace H : (if 0 ≤ (wrap64 ((l0.length : Int) + t181)) then (if (wrap64 ((l0.length : Int) + t181) : Int).toNat ≤ 17592186044416 then (laws_toStringS.l0 kj2 l0 (List.replicate (wrap64 ((l0.length : Int) + t181) : Int).toNat (⟨#[]⟩ : ByteArray)) 0) else (none)) else (none)) = some r := H
    have A6 := Aside0.mk A60
    clear A60
    obtain ⟨ji7, hji7⟩ : ∃ j_ : Int, (wrap64 ((l0.length : Int) + t181)) = j_ := ⟨_, rfl⟩
    replace H : (if 0 ≤ (ji7) then (if (ji7 : Int).toNat ≤ 17592186044416 then (laws_toStringS.l0 kj2 l0 (List.replicate (ji7 : Int).toNat (⟨#[]⟩ : ByteArray)) 0) else (none)) else (none)) = some r := by first | (rw [hji7] at H; exact H) | (simp only [hji7] at H ⊢; exact H)
    (try rw [hji7] at A6)
    have hji7w : (IntKind.i64.wrap ((l0.length : Int) + t181)) = ji7 := (i64_w _).trans hji7
    by_cases c8 : 0 ≤ (ji7)
    case neg =>
     rw [if_neg c8] at H
     exact absurd H (by simp)


    rw [if_pos c8] at H
    have c8b0 := eq_true c8
    have c8b1 : decide (0 ≤ (ji7)) = true := decide_eq_true c8
    clear c8
    by_cases c9 : (ji7 : Int).toNat ≤ 17592186044416
    case neg =>
     rw [if_neg c9] at H
     exact absurd H (by simp)
    rw [if_pos c9] at H
    have c9b0 := eq_true c9
    have c9b1 : decide ((ji7 : Int).toNat ≤ 17592186044416) = true := decide_eq_true c9
    clear c9
    obtain ⟨y182, hy182⟩ : ∃ y_ : List ByteArray, y_ = (List.replicate (ji7 : Int).toNat (⟨#[]⟩ : ByteArray)) := ⟨_, rfl⟩
    replace H : (laws_toStringS.l0 kj2 l0 y182 0) = some r := by first | (rw [hy182]; with_reducible exact H) | (have H2_ := (Option.bind_some _ _).symm.trans H; rw [hy182]; with_reducible exact H2_) | (have H2_ := (Option.bind_some _ _).symm.trans H; with_reducible exact H2_) | with_reducible exact H | (rw [hy182]; exact H) | exact H
    have Ny182 := Aside0.mk hy182
    clear hy182
    have H' := Aside0.mk H
    clear H
    go_wp2_with (first | ((with_reducible refine gate_callee (f := 120) rfl ?_); refine goesL_ (some 18) rfl rfl Try.func120 (by kernel_rfl) rfl #[.int .i64 (l0.length : Int)] rfl ag_ ?_; (with_reducible refine (laws_roomBehind.calls (l0.length : Int) t181 _ A6.out).mono ?_); rintro e w' ⟨rfl, ⟨nd, rfl⟩⟩; refine ⟨_, rfl, ?_⟩) | ((with_reducible refine gate_dst (N := 20) rfl ?_); (try (refine gate_guard (by rfl) ?_; dsimp only)); refine Kd.R_make Kd.string _ 9 rfl (N := 20) rfl 98 _ _ rfl ji7 rfl rfl Try.underlying98 (.string ⟨#[]⟩) 16 info9 rfl (by decide) (by omega) (⟨#[]⟩ : ByteArray) (ok := fun _ => True) (okp := fun _ => True) rfl (fun _ hk => hk) trivial od_ (Nat.le_trans (Nat.mul_le_mul_right _ (od_ : ji7.toNat ≤ 17592186044416)) (by omega)) (Below.refl _ _) (Nat.le_refl _) ?_; intro v183 w10 ho11 hb hg_ hnew_; clear hg_ hnew_; (first | rw [← Ny182.out] at ho11 | (simp only [Int.reduceToNat] at ho11; rw [← Ny182.out] at ho11)); have HO184 := Aside0.mk (Kd.R_lower ho11 (below_size (bl_ HB.out))); replace HB := Aside0.mk (below_step (bl_ HB.out) hb); clear hb ho11))
    go_loopg [6] kj2 (fun kq v6 w' => ∃ (x5_2 : List ByteArray) (x6_2 : Int), v6 = .int .i64 x6_2 ∧ Aside0 (laws_toStringS.l0 kq l0 x5_2 x6_2 = some r) ∧ Aside0 (kq ≤ kj2) ∧ Aside0 (Kd.R Kd.string 9 w' w.heap.size (fun _ => True) v183 x5_2) ∧ Aside0 (Below w.heap.size w w'))
    case atStart => exact ⟨(y182), (0), (by first | rfl | (simp; done) | (simp [*]; done)), H', ⟨Nat.le_refl _⟩, ⟨rk_ HO184.out⟩, ⟨bl_ HB.out⟩⟩
    case round =>
     clear H'
     try clear c1
     try clear p2
     try clear c4
     try clear c5
     try clear p6
     try clear c8
     try clear c8b0
     try clear c8b1
     try clear c9
     try clear c9b0
     try clear c9b1
     try clear p2
     obtain ⟨x5_2, x6_2, rfl, HA, HK2, HO_5, HB⟩ := hrel
     cases gk with
     | zero => exact absurd HA.out (by simp [laws_toStringS.l0])
     | succ k2 =>
      have H := HA.out
      clear HA
      simp only [laws_toStringS.l0] at H
      by_cases c12 : x6_2 < (l0.length : Int)
      ·rw [if_pos c12] at H
       have c12b0 : decide (x6_2 < (l0.length : Int)) = true := decide_eq_true c12
       clear c12
       by_cases c13 : 0 ≤ x6_2
       case neg =>
        rw [if_neg c13] at H
        exact absurd H (by simp)
       rw [if_pos c13] at H
       have c13b0 : decide (0 ≤ x6_2) = true := decide_eq_true c13
       clear c13
       by_cases c14 : x6_2 < (x5_2.length : Int)
       case neg =>
        rw [if_neg c14] at H
        exact absurd H (by simp)
       rw [if_pos c14] at H
       have c14b0 : decide (x6_2 < (x5_2.length : Int)) = true := decide_eq_true c14
       clear c14
       obtain ⟨y186, hy186⟩ : ∃ y_ : List ByteArray, y_ = (x5_2.set (x6_2 : Int).toNat (rdOf ByteArray.empty l0 x6_2)) := ⟨_, rfl⟩
       replace H : (laws_toStringS.l0 k2 l0 y186 (wrap64 (x6_2 + 1))) = some r := by first | (rw [hy186]; with_reducible exact H) | (have H2_ := (Option.bind_some _ _).symm.trans H; rw [hy186]; with_reducible exact H2_) | (have H2_ := (Option.bind_some _ _).symm.trans H; with_reducible exact H2_) | with_reducible exact H | (rw [hy186]; exact H) | exact H
       have Ny186 := Aside0.mk hy186
       clear hy186
       have H' := Aside0.mk H
       clear H
       have p185 : 0 ≤ (x6_2 : Int) := od_
       have q185 : x6_2 < (l0.length : Int) := od_
       obtain ⟨ad185, e185, hx185_0⟩ := Kd.at_string HR0.out x6_2 p185 q185
       cases e185
       replace hx185_0 := bc_ HB.out hx185_0
       replace p185 := eq_true p185
       replace q185 := eq_true q185
       have p15 : 0 ≤ (x6_2 : Int) := od_
       have q15 : (x6_2 : Int) < ((x5_2.length : Int) : Int) := od_
       obtain ⟨go15, co15, eo15, gb15, gl15, cl15, HG15⟩ := Kd.R_form HO_5.out (by omega)
       (first | cases eo15 | (injection eo15 with ea_ en_ ec_; (first | subst ea_ | (injection ea_ with ea_; subst ea_)); subst ec_; clear en_))
       have GB15 := Aside0.mk gb15
       have GG15 := Aside0.mk HG15
       clear gb15 gl15 HG15
       obtain ⟨hx15_0, hf15_0⟩ := Kd.R_celln (⟨#[]⟩ : ByteArray) HO_5.out (x6_2 : Int) p15 q15
       replace p15 := eq_true p15
       replace q15 := eq_true q15
       have HP16 := Kd.R_putg HO_5.out (x6_2 : Int) (rdOf ByteArray.empty l0 x6_2)
       go_wp2_with (first | ((with_reducible refine gate_store (t := 9) (p := 33) rfl ?_); refine store_event (t := 9) (p := 33) (v := ?vo_w17) (w1 := (wr.setCell ⟨go15, (x6_2 : Int).toNat, none⟩ (.string (rdOf ByteArray.empty l0 x6_2)))) ?hg ?ho ?hn ?hr ?_; (case ho => rfl); (case hg => rfl); (case hn => rfl); (case hr => first | (go_simp; done) | (go_simp; rfl)); intro w17 hw; have hg : wr.grownBy w17 (some go15) := (by rw [hw]; exact HP16.2); have hp_ : Kd.R Kd.string 9 w17 w.heap.size (fun _ => True) (.slice (some ⟨go15, 0, none⟩) x5_2.length co15) y186 := (by rw [hw, Ny186.out]; exact HP16.1); clear HP16; replace HO_5 := Aside0.mk (hp_); replace HB := Aside0.mk ((by rw [hw]; exact below_set (HB.out) GB15.out : Below w.heap.size w w17)); clear hg hw hp_))
       go_roundg k2
       case measure => have := HJ2.out; have := HK2.out; omega
       case rel => exact ⟨(y186), (wrap64 (x6_2 + 1)), (by first | rfl | (simp; done) | (simp [*]; done)), H', ⟨by have := HJ2.out; have := HK2.out; omega⟩, ⟨rk_ HO_5.out⟩, ⟨bl_ HB.out⟩⟩
      ·rw [if_neg c12] at H
       have c12b0 : decide (x6_2 < (l0.length : Int)) = false := decide_eq_false c12
       clear c12
       have H' := Aside0.mk H
       clear H
       go_wp2
       go_loopg [7] k2 (fun kq v7 w' => ∃ (x5_3 : List ByteArray) (x7_3 : Int), v7 = .int .i64 x7_3 ∧ Aside0 (laws_toStringS.l1 kq l0 x5_3 x7_3 = some r) ∧ Aside0 (kq ≤ k2) ∧ Aside0 (Kd.R Kd.string 9 w' w.heap.size (fun _ => True) v183 x5_3) ∧ Aside0 (Below w.heap.size w w'))
       case atStart => exact ⟨(x5_2), ((l0.length : Int)), (by first | rfl | (simp; done) | (simp [*]; done)), H', ⟨Nat.le_refl _⟩, ⟨rk_ HO_5.out⟩, ⟨bl_ HB.out⟩⟩
       case round =>
        clear H'
        try clear c1
        try clear p1
        try clear q1
        try clear hx1
        try clear p2
        try clear c4
        try clear c5
        try clear p6
        try clear c8
        try clear c8b0
        try clear c8b1
        try clear c9
        try clear c9b0
        try clear c9b1
        try clear c12
        try clear c12b0
        try clear c13
        try clear c13b0
        try clear c14
        try clear c14b0
        try clear p15
        try clear q15
        try clear hx15
        try clear hf15
        try clear c17
        try clear hx15_0
        try clear hx185_0
        try clear p15
        try clear p185
        try clear p2
        try clear p6
        try clear q15
        try clear q185
        obtain ⟨x5_3, x7_3, rfl, HA, HK3, HO_5, HB⟩ := hrel
        cases gk with
        | zero => exact absurd HA.out (by simp [laws_toStringS.l1])
        | succ k3 =>
         have H := HA.out
         clear HA
         simp only [laws_toStringS.l1] at H
         by_cases c18 : x7_3 < (x5_3.length : Int)
         ·rw [if_pos c18] at H
          have c18b0 : decide (x7_3 < (x5_3.length : Int)) = true := decide_eq_true c18
          clear c18
          by_cases c19 : 0 ≤ x7_3
          case neg =>
           rw [if_neg c19] at H
           exact absurd H (by simp)
          rw [if_pos c19] at H
          have c19b0 : decide (0 ≤ x7_3) = true := decide_eq_true c19
          clear c19
          obtain ⟨y187, hy187⟩ : ∃ y_ : List ByteArray, y_ = (x5_3.set (x7_3 : Int).toNat (⟨#[126, 115, 112, 97, 114, 101, 126]⟩ : ByteArray)) := ⟨_, rfl⟩
          replace H : (laws_toStringS.l1 k3 l0 y187 (wrap64 (x7_3 + 1))) = some r := by first | (rw [hy187]; with_reducible exact H) | (have H2_ := (Option.bind_some _ _).symm.trans H; rw [hy187]; with_reducible exact H2_) | (have H2_ := (Option.bind_some _ _).symm.trans H; with_reducible exact H2_) | with_reducible exact H | (rw [hy187]; exact H) | exact H
          have Ny187 := Aside0.mk hy187
          clear hy187
          have H' := Aside0.mk H
          clear H
          obtain ⟨Ao21, co21, eo21⟩ := Kd.R_slice HO_5.out
          subst eo21
          have p20 : 0 ≤ (x7_3 : Int) := od_
          have q20 : (x7_3 : Int) < ((x5_3.length : Int) : Int) := od_
          obtain ⟨go20, co20, eo20, gb20, gl20, cl20, HG20⟩ := Kd.R_form HO_5.out (by omega)
          (first | cases eo20 | (injection eo20 with ea_ en_ ec_; (first | subst ea_ | (injection ea_ with ea_; subst ea_)); subst ec_; clear en_))
          have GB20 := Aside0.mk gb20
          have GG20 := Aside0.mk HG20
          clear gb20 gl20 HG20
          obtain ⟨hx20_0, hf20_0⟩ := Kd.R_celln (⟨#[]⟩ : ByteArray) HO_5.out (x7_3 : Int) p20 q20
          replace p20 := eq_true p20
          replace q20 := eq_true q20
          have HP22 := Kd.R_putg HO_5.out (x7_3 : Int) (⟨#[126, 115, 112, 97, 114, 101, 126]⟩ : ByteArray)
          go_wp2_with (first | ((with_reducible refine gate_store (t := 9) (p := 44) rfl ?_); refine store_event (t := 9) (p := 44) (v := ?vo_w23) (w1 := (wr.setCell ⟨go20, (x7_3 : Int).toNat, none⟩ (.string (⟨#[126, 115, 112, 97, 114, 101, 126]⟩ : ByteArray)))) ?hg ?ho ?hn ?hr ?_; (case ho => rfl); (case hg => rfl); (case hn => rfl); (case hr => first | (go_simp; done) | (go_simp; rfl)); intro w23 hw; have hg : wr.grownBy w23 (some go20) := (by rw [hw]; exact HP22.2); have hp_ : Kd.R Kd.string 9 w23 w.heap.size (fun _ => True) (.slice (some ⟨go20, 0, none⟩) x5_3.length co21) y187 := (by rw [hw, Ny187.out]; exact HP22.1); clear HP22; replace HO_5 := Aside0.mk (hp_); replace HB := Aside0.mk ((by rw [hw]; exact below_set (HB.out) GB20.out : Below w.heap.size w w23)); clear hg hw hp_))
          go_roundg k3
          case measure => have := HJ2.out; have := HK2.out; have := HK3.out; omega
          case rel => exact ⟨(y187), (wrap64 (x7_3 + 1)), (by first | rfl | (simp; done) | (simp [*]; done)), H', ⟨by have := HJ2.out; have := HK2.out; have := HK3.out; omega⟩, ⟨rk_ HO_5.out⟩, ⟨bl_ HB.out⟩⟩
         ·rw [if_neg c18] at H
          have c18b0 : decide (x7_3 < (x5_3.length : Int)) = false := decide_eq_false c18
          clear c18
          by_cases c24 : 0 ≤ (l0.length : Int)
          case neg =>
           rw [if_neg c24] at H
           exact absurd H (by simp)
          rw [if_pos c24] at H
          have c24b0 := eq_true c24
          have c24b1 : decide (0 ≤ (l0.length : Int)) = true := decide_eq_true c24
          clear c24
          by_cases c25 : (l0.length : Int) ≤ (x5_3.length : Int)
          case neg =>
           rw [if_neg c25] at H
           exact absurd H (by simp)
          rw [if_pos c25] at H
          have c25b0 := eq_true c25
          have c25b1 : decide ((l0.length : Int) ≤ (x5_3.length : Int)) = true := decide_eq_true c25
          clear c25
          obtain ⟨y188, hy188⟩ : ∃ y_ : List ByteArray, y_ = (x5_3.take ((l0.length : Int) : Int).toNat) := ⟨_, rfl⟩
          replace H : (some y188) = some r := by first | (rw [hy188]; with_reducible exact H) | (have H2_ := (Option.bind_some _ _).symm.trans H; rw [hy188]; with_reducible exact H2_) | (have H2_ := (Option.bind_some _ _).symm.trans H; with_reducible exact H2_) | with_reducible exact H | (rw [hy188]; exact H) | exact H
          have Ny188 := Aside0.mk hy188
          clear hy188
          obtain rfl := Option.some.inj H
          obtain ⟨Ao26, co26, eo26⟩ := Kd.R_slice HO_5.out
          subst eo26
          have q27 : ((l0.length : Int) : Int) ≤ ((x5_3.length : Int) : Int) := od_
          obtain ⟨i027, hi027, _, hsz27, _⟩ := info_parts info9
          have hcut27 := cut_to (P := Try.prog) 98 9 .i64 Try.underlying98 hi027 Ao26 x5_3.length co26 (l0.length : Int) od_ q27 (Kd.R_reads' HO_5.out).2.1
          have hr27 := Kd.R_take (m := ((l0.length : Int) : Int).toNat) HO_5.out (by omega)
          have hy27 : y188.length = ((l0.length : Int) : Int).toNat := (by rw [Ny188.out, List.length_take]; omega)
          rw [← Ny188.out] at hr27
          rw [← hy27] at hr27 hcut27
          clear hy27 hi027 hsz27 HO_5
          have HO190 := Aside0.mk hr27
          clear hr27
          replace q27 := eq_true q27
          go_wp2
          go_ret
          exact ⟨_, by first | rfl | (simp [errW_none, errW_some] <;> rfl) | (simp only [← hji7]; first | rfl | (simp [errW_none, errW_some] <;> rfl)) | (simp [*, errW_none, errW_some] <;> rfl), rk_ HO190.out, bl_ HB.out⟩
def laws_toRack.f (k : Nat) (a0_0 : Int) (a0_1 : Int) (l0_2 : List Int) (l0_3 : List ByteArray) (a1 : Bool) : Option (Int × Int × List Int × List ByteArray) := (laws_toInt64S.f k l0_2 a1).bind fun t194 => ((laws_toStringS.f k l0_3 a1).bind fun t197 => (some (a0_0, a0_1, t194, t197)))
set_option maxHeartbeats 8000000 in
set_option maxRecDepth 100000 in
theorem laws_toRack.calls (k : Nat) (a0_0 : Int) (a0_1 : Int) (A0_2 : Option Addr) (c0_2 : Nat) (l0_2 : List Int) (A0_3 : Option Addr) (c0_3 : Nat) (l0_3 : List ByteArray) (a1 : Bool) (r1 : Int) (r2 : Int) (r3 : List Int) (r4 : List ByteArray) (w : World) (hr0_2 : Kd.C (Kd.int .i64) w A0_2 l0_2.length l0_2) (hc0_2 : l0_2.length ≤ c0_2) (hr0_3 : Kd.C Kd.string w A0_3 l0_3.length l0_3) (hc0_3 : l0_3.length ≤ c0_3) (h : laws_toRack.f k a0_0 a0_1 l0_2 l0_3 a1 = some (r1, r2, r3, r4)) :
  Calls Try.prog 92 #[.agg #[.int .i64 a0_0, .int .i64 a0_1, .slice A0_2 l0_2.length c0_2, .slice A0_3 l0_3.length c0_3], .bool a1] w fun e w' => ∃ v2_ v3_ : Value, e = .returned (.agg #[.int .i64 r1, .int .i64 r2, v2_, v3_]) ∧ Kd.R (Kd.int .i64) 2 w' w.heap.size (fun _ => True) v2_ r3 ∧ Kd.R Kd.string 9 w' w.heap.size (fun _ => True) v3_ r4 ∧ Below w.heap.size w w' := by
 have hu100 := Try.underlying100
 have hu106 := Try.underlying106
 have HR0_2 := Aside0.mk hr0_2
 have HC0_2 := Aside0.mk hc0_2
 clear hr0_2 hc0_2
 have HR0_3 := Aside0.mk hr0_3
 have HC0_3 := Aside0.mk hc0_3
 clear hr0_3 hc0_3
 have HB := Aside0.mk (Below.refl w.heap.size w)
 have H : ((laws_toInt64S.f k l0_2 a1).bind fun t194 => ((laws_toStringS.f k l0_3 a1).bind fun t197 => (some (a0_0, a0_1, t194, t197)))) = some (r1, r2, r3, r4) := h
 clear h
 replace H := Option.bind_eq_some_iff.mp H
 obtain ⟨t194, A30, H⟩ := H
 replace H : ((laws_toStringS.f k l0_3 a1).bind fun t197 => (some (a0_0, a0_1, t194, t197))) = some (r1, r2, r3, r4) := H
 have A3 := Aside0.mk A30
 clear A30
 replace H := Option.bind_eq_some_iff.mp H
 obtain ⟨t197, A40, H⟩ := H
 replace H : (some (a0_0, a0_1, t194, t197)) = some (r1, r2, r3, r4) := H
 have A4 := Aside0.mk A40
 clear A40
 simp only [Option.some.injEq, Prod.mk.injEq] at H
 obtain ⟨rfl, rfl, rfl, rfl⟩ := H
 go_enter Try.func92, Try.ntmps92
 go_wp2_with (first | ((with_reducible refine gate_dst (N := 2) rfl ?_); refine box_event ?hg (N := 2) ?hd (cs := #[.int .i64 a0_0, .int .i64 a0_1, .slice A0_2 l0_2.length c0_2, .slice A0_3 l0_3.length c0_3]) (t := 100) ?hr ?_; (case hd => rfl); (case hg => rfl); (case hr => first | (go_simp; done) | (go_simp; rfl)); intro gb191 hg w5 hbox hb; have BK191 := Aside0.mk (hbox); have GW191 := Aside0.mk ((by rw [hg]; exact (below_size (bl_ HB.out)) : w.heap.size ≤ gb191)); have GE191 := Aside0.mk ((by rw [hg]; exact (below_size (bl_ HB.out)) : w.heap.size ≤ gb191)); replace HB := Aside0.mk (below_step (bl_ HB.out) hb); clear hb hbox hg) | ((with_reducible refine gate_dst (N := 4) rfl ?_); refine box_event ?hg (N := 4) ?hd (cs := #[.int .i64 0, .int .i64 0, .slice none 0 0, .slice none 0 0]) (t := 106) ?hr ?_; (case hd => rfl); (case hg => rfl); (case hr => first | (go_simp; done) | (go_simp; rfl)); intro gb192 hg w6 hbox hb; have BK192 := Aside0.mk (hbox); have GW192 := Aside0.mk ((by rw [hg]; exact (below_size (r0_ HB.out GE191.out)) : w.heap.size ≤ gb192)); have GE192 := Aside0.mk ((by rw [hg]; exact (below_size (r0_ HB.out GE191.out)) : w.heap.size ≤ gb192)); replace HB := Aside0.mk (below_step (r0_ HB.out GE191.out) hb); have NB191_192 := Aside0.mk ((by rw [hg]; exact Nat.ne_of_lt (blk_lt (g := gb191) (o := .cells #[.int .i64 a0_0, .int .i64 a0_1, .slice A0_2 l0_2.length c0_2, .slice A0_3 l0_3.length c0_3] 100 (0, 0)) (r1_ BK191.out)) : gb191 ≠ gb192)); have NB192_191 := Aside0.mk ((by rw [hg]; exact Nat.ne_of_gt (blk_lt (g := gb191) (o := .cells #[.int .i64 a0_0, .int .i64 a0_1, .slice A0_2 l0_2.length c0_2, .slice A0_3 l0_3.length c0_3] 100 (0, 0)) (r1_ BK191.out)) : gb192 ≠ gb191)); replace BK191 := Aside0.mk (blk_below (g := gb191) (o := .cells #[.int .i64 a0_0, .int .i64 a0_1, .slice A0_2 l0_2.length c0_2, .slice A0_3 l0_3.length c0_3] 100 (0, 0)) (r1_ BK191.out) hb); clear hb hbox hg) | ((with_reducible refine gate_dst (N := 5) rfl ?_); refine box_event ?hg (N := 5) ?hd (cs := #[.int .i64 0, .int .i64 0, .slice none 0 0, .slice none 0 0]) (t := 106) ?hr ?_; (case hd => rfl); (case hg => rfl); (case hr => first | (go_simp; done) | (go_simp; rfl)); intro gb193 hg w7 hbox hb; have BK193 := Aside0.mk (hbox); have GW193 := Aside0.mk ((by rw [hg]; exact (below_size (r3_ HB.out GE191.out GE192.out)) : w.heap.size ≤ gb193)); have GE193 := Aside0.mk ((by rw [hg]; exact (below_size (r3_ HB.out GE191.out GE192.out)) : w.heap.size ≤ gb193)); replace HB := Aside0.mk (below_step (r3_ HB.out GE191.out GE192.out) hb); have NB191_193 := Aside0.mk ((by rw [hg]; exact Nat.ne_of_lt (blk_lt (g := gb191) (o := .cells #[.int .i64 a0_0, .int .i64 a0_1, .slice A0_2 l0_2.length c0_2, .slice A0_3 l0_3.length c0_3] 100 (0, 0)) (r1_ BK191.out)) : gb191 ≠ gb193)); have NB193_191 := Aside0.mk ((by rw [hg]; exact Nat.ne_of_gt (blk_lt (g := gb191) (o := .cells #[.int .i64 a0_0, .int .i64 a0_1, .slice A0_2 l0_2.length c0_2, .slice A0_3 l0_3.length c0_3] 100 (0, 0)) (r1_ BK191.out)) : gb193 ≠ gb191)); replace BK191 := Aside0.mk (blk_below (g := gb191) (o := .cells #[.int .i64 a0_0, .int .i64 a0_1, .slice A0_2 l0_2.length c0_2, .slice A0_3 l0_3.length c0_3] 100 (0, 0)) (r1_ BK191.out) hb); have NB192_193 := Aside0.mk ((by rw [hg]; exact Nat.ne_of_lt (blk_lt (g := gb192) (o := .cells #[.int .i64 0, .int .i64 0, .slice none 0 0, .slice none 0 0] 106 (0, 0)) (r1_ BK192.out)) : gb192 ≠ gb193)); have NB193_192 := Aside0.mk ((by rw [hg]; exact Nat.ne_of_gt (blk_lt (g := gb192) (o := .cells #[.int .i64 0, .int .i64 0, .slice none 0 0, .slice none 0 0] 106 (0, 0)) (r1_ BK192.out)) : gb193 ≠ gb192)); replace BK192 := Aside0.mk (blk_below (g := gb192) (o := .cells #[.int .i64 0, .int .i64 0, .slice none 0 0, .slice none 0 0] 106 (0, 0)) (r1_ BK192.out) hb); clear hb hbox hg; have hnb8 := NB191_192.out; have hnc8 := NB192_191.out; have hnb9 := NB191_193.out; have hnc9 := NB193_191.out; have hcz10_0 : w7.cell? ⟨gb191, 0, none⟩ = some (.int .i64 a0_0) := (blk_cell BK191.out 0).trans rfl; have hcz10_1 : w7.cell? ⟨gb191, 1, none⟩ = some (.int .i64 a0_1) := (blk_cell BK191.out 1).trans rfl; have hcz10_2 : w7.cell? ⟨gb191, 2, none⟩ = some (.slice A0_2 l0_2.length c0_2) := (blk_cell BK191.out 2).trans rfl; have hcz10_3 : w7.cell? ⟨gb191, 3, none⟩ = some (.slice A0_3 l0_3.length c0_3) := (blk_cell BK191.out 3).trans rfl; have hfz10_0 := blk_frozen BK191.out 0; have hfz10_1 := blk_frozen BK191.out 1; have hfz10_2 := blk_frozen BK191.out 2; have hfz10_3 := blk_frozen BK191.out 3; have hnb11 := NB193_192.out; have hnc11 := NB192_193.out; have hcz12_0 : w7.cell? ⟨gb193, 0, none⟩ = some (.int .i64 0) := (blk_cell BK193.out 0).trans rfl; have hcz12_1 : w7.cell? ⟨gb193, 1, none⟩ = some (.int .i64 0) := (blk_cell BK193.out 1).trans rfl; have hcz12_2 : w7.cell? ⟨gb193, 2, none⟩ = some (.slice none 0 0) := (blk_cell BK193.out 2).trans rfl; have hcz12_3 : w7.cell? ⟨gb193, 3, none⟩ = some (.slice none 0 0) := (blk_cell BK193.out 3).trans rfl; have hfz12_0 := blk_frozen BK193.out 0; have hfz12_1 := blk_frozen BK193.out 1; have hfz12_2 := blk_frozen BK193.out 2; have hfz12_3 := blk_frozen BK193.out 3) | ((with_reducible refine gate_callee (f := 41) rfl ?_); refine goesL_ (some 15) rfl rfl Try.func41 (by kernel_rfl) rfl #[.slice A0_2 l0_2.length c0_2, .bool a1] rfl ag_ ?_; (with_reducible refine (laws_toInt64S.calls k _ _ l0_2 a1 t194 _ ?side1 ?side2 A3.out).mono ?_); (case side1 => exact Kd.C_below HR0_2.out (by repeat (first | (with_reducible first | exact HB.out | apply below_alloc | apply pw_below_drewN | apply below_drew1 | refine below_set ?_ GE191.out | refine below_set ?_ GE192.out | refine below_set ?_ GE193.out) | exact HB.out))); (case side2 => exact HC0_2.out); rintro e w13 ⟨v195, rfl, ho0, hb⟩; refine ⟨_, rfl, ?_⟩; have HO196 := Aside0.mk (Kd.R_lower ho0 (below_size (by repeat (first | (with_reducible first | exact HB.out | apply below_alloc | apply pw_below_drewN | apply below_drew1 | refine below_set ?_ GE191.out | refine below_set ?_ GE192.out | refine below_set ?_ GE193.out) | exact HB.out)))); replace BK191 := Aside0.mk (blk_below (g := gb191) (o := .cells #[.int .i64 a0_0, .int .i64 a0_1, .slice A0_2 l0_2.length c0_2, .slice A0_3 l0_3.length c0_3] 100 (0, 0)) (r5_ NB191_193.out BK191.out) hb); replace BK192 := Aside0.mk (blk_below (g := gb192) (o := .cells #[.int .i64 0, .int .i64 0, .slice none 0 0, .slice none 0 0] 106 (0, 0)) (r5_ NB192_193.out BK192.out) hb); replace BK193 := Aside0.mk (blk_below (g := gb193) (o := .cells #[.int .i64 a0_0, .int .i64 a0_1, .slice none 0 0, .slice none 0 0] 106 (0, 0)) (by (with_reducible repeat (first | refine blk_drewN ?_ _ | refine blk_drew ?_ | refine blk_alloc ?_ _)); refine blk_put (cs := #[.int .i64 a0_0, .int .i64 0, .slice none 0 0, .slice none 0 0]) ?_ 1 _ rfl; (with_reducible repeat (first | refine blk_drewN ?_ _ | refine blk_drew ?_ | refine blk_alloc ?_ _)); refine blk_put (cs := #[.int .i64 0, .int .i64 0, .slice none 0 0, .slice none 0 0]) ?_ 0 _ rfl; (with_reducible repeat (first | refine blk_drewN ?_ _ | refine blk_drew ?_ | refine blk_alloc ?_ _)); exact BK193.out) hb); replace HB := Aside0.mk (below_step (by repeat (first | (with_reducible first | exact HB.out | apply below_alloc | apply pw_below_drewN | apply below_drew1 | refine below_set ?_ GE191.out | refine below_set ?_ GE192.out | refine below_set ?_ GE193.out) | exact HB.out)) hb); (try clear hb); (try clear hb2); (try clear hk); (try clear hi); (try clear ho0); obtain ⟨Ao14, co14, eo14⟩ := Kd.R_slice HO196.out; subst eo14; have hcz15_0 : w13.cell? ⟨gb193, 0, none⟩ = some (.int .i64 a0_0) := (blk_cell BK193.out 0).trans rfl; have hcz15_1 : w13.cell? ⟨gb193, 1, none⟩ = some (.int .i64 a0_1) := (blk_cell BK193.out 1).trans rfl; have hcz15_2 : w13.cell? ⟨gb193, 2, none⟩ = some (.slice none 0 0) := (blk_cell BK193.out 2).trans rfl; have hcz15_3 : w13.cell? ⟨gb193, 3, none⟩ = some (.slice none 0 0) := (blk_cell BK193.out 3).trans rfl; have hfz15_0 := blk_frozen BK193.out 0; have hfz15_1 := blk_frozen BK193.out 1; have hfz15_2 := blk_frozen BK193.out 2; have hfz15_3 := blk_frozen BK193.out 3; have hcz16_0 : w13.cell? ⟨gb191, 0, none⟩ = some (.int .i64 a0_0) := (blk_cell BK191.out 0).trans rfl; have hcz16_1 : w13.cell? ⟨gb191, 1, none⟩ = some (.int .i64 a0_1) := (blk_cell BK191.out 1).trans rfl; have hcz16_2 : w13.cell? ⟨gb191, 2, none⟩ = some (.slice A0_2 l0_2.length c0_2) := (blk_cell BK191.out 2).trans rfl; have hcz16_3 : w13.cell? ⟨gb191, 3, none⟩ = some (.slice A0_3 l0_3.length c0_3) := (blk_cell BK191.out 3).trans rfl; have hfz16_0 := blk_frozen BK191.out 0; have hfz16_1 := blk_frozen BK191.out 1; have hfz16_2 := blk_frozen BK191.out 2; have hfz16_3 := blk_frozen BK191.out 3) | ((with_reducible refine gate_callee (f := 170) rfl ?_); refine goesL_ (some 20) rfl rfl Try.func170 (by kernel_rfl) rfl #[.slice A0_3 l0_3.length c0_3, .bool a1] rfl ag_ ?_; (with_reducible refine (laws_toStringS.calls k _ _ l0_3 a1 t197 _ ?side1 ?side2 A4.out).mono ?_); (case side1 => exact Kd.C_below HR0_3.out (by repeat (first | (with_reducible first | exact HB.out | apply below_alloc | apply pw_below_drewN | apply below_drew1 | refine below_set ?_ GE191.out | refine below_set ?_ GE192.out | refine below_set ?_ GE193.out) | exact HB.out))); (case side2 => exact HC0_3.out); rintro e w17 ⟨v198, rfl, ho0, hb⟩; refine ⟨_, rfl, ?_⟩; replace HO196 := Aside0.mk (Kd.R_below (rk_ ((Kd.R_mono (Kd.R_far (p := ⟨gb193, 2, none⟩) (Kd.R_types HO196.out BK193.out (by decide)) (fun _ hk => hk.2) (.slice Ao14 t194.length co14)) (fun _ h_ => h_.1)))) hb); have HO199 := Aside0.mk (Kd.R_lower ho0 (below_size (by repeat (first | (with_reducible first | exact HB.out | apply below_alloc | apply pw_below_drewN | apply below_drew1 | refine below_set ?_ GE191.out | refine below_set ?_ GE192.out | refine below_set ?_ GE193.out) | exact HB.out)))); replace BK191 := Aside0.mk (blk_below (g := gb191) (o := .cells #[.int .i64 a0_0, .int .i64 a0_1, .slice A0_2 l0_2.length c0_2, .slice A0_3 l0_3.length c0_3] 100 (0, 0)) (r6_ NB191_193.out BK191.out) hb); replace BK192 := Aside0.mk (blk_below (g := gb192) (o := .cells #[.int .i64 0, .int .i64 0, .slice none 0 0, .slice none 0 0] 106 (0, 0)) (r6_ NB192_193.out BK192.out) hb); replace BK193 := Aside0.mk (blk_below (g := gb193) (o := .cells #[.int .i64 a0_0, .int .i64 a0_1, .slice Ao14 t194.length co14, .slice none 0 0] 106 (0, 0)) (by (with_reducible repeat (first | refine blk_drewN ?_ _ | refine blk_drew ?_ | refine blk_alloc ?_ _)); refine blk_put (cs := #[.int .i64 a0_0, .int .i64 a0_1, .slice none 0 0, .slice none 0 0]) ?_ 2 _ rfl; (with_reducible repeat (first | refine blk_drewN ?_ _ | refine blk_drew ?_ | refine blk_alloc ?_ _)); exact BK193.out) hb); replace HB := Aside0.mk (below_step (by repeat (first | (with_reducible first | exact HB.out | apply below_alloc | apply pw_below_drewN | apply below_drew1 | refine below_set ?_ GE191.out | refine below_set ?_ GE192.out | refine below_set ?_ GE193.out) | exact HB.out)) hb); (try clear hb); (try clear hb2); (try clear hk); (try clear hi); (try clear ho0); obtain ⟨Ao18, co18, eo18⟩ := Kd.R_slice HO199.out; subst eo18; have hcz19_0 : w17.cell? ⟨gb193, 0, none⟩ = some (.int .i64 a0_0) := (blk_cell BK193.out 0).trans rfl; have hcz19_1 : w17.cell? ⟨gb193, 1, none⟩ = some (.int .i64 a0_1) := (blk_cell BK193.out 1).trans rfl; have hcz19_2 : w17.cell? ⟨gb193, 2, none⟩ = some (.slice Ao14 t194.length co14) := (blk_cell BK193.out 2).trans rfl; have hcz19_3 : w17.cell? ⟨gb193, 3, none⟩ = some (.slice none 0 0) := (blk_cell BK193.out 3).trans rfl; have hfz19_0 := blk_frozen BK193.out 0; have hfz19_1 := blk_frozen BK193.out 1; have hfz19_2 := blk_frozen BK193.out 2; have hfz19_3 := blk_frozen BK193.out 3; have hcz20_0 : w17.cell? ⟨gb192, 0, none⟩ = some (.int .i64 0) := (blk_cell BK192.out 0).trans rfl; have hcz20_1 : w17.cell? ⟨gb192, 1, none⟩ = some (.int .i64 0) := (blk_cell BK192.out 1).trans rfl; have hcz20_2 : w17.cell? ⟨gb192, 2, none⟩ = some (.slice none 0 0) := (blk_cell BK192.out 2).trans rfl; have hcz20_3 : w17.cell? ⟨gb192, 3, none⟩ = some (.slice none 0 0) := (blk_cell BK192.out 3).trans rfl; have hfz20_0 := blk_frozen BK192.out 0; have hfz20_1 := blk_frozen BK192.out 1; have hfz20_2 := blk_frozen BK192.out 2; have hfz20_3 := blk_frozen BK192.out 3))
 refine bodyPost_ret (results_cell_row rfl _ _ gb192 106 #[.int .i64 a0_0, .int .i64 a0_1, .slice Ao14 t194.length co14, .slice Ao18 t197.length co18] (0, 0) _ rfl (by (with_reducible repeat (first | refine blk_drewN ?_ _ | refine blk_drew ?_ | refine blk_alloc ?_ _)); refine blk_put (cs := #[.int .i64 a0_0, .int .i64 a0_1, .slice Ao14 t194.length co14, .slice none 0 0]) ?_ 3 _ rfl; (with_reducible repeat (first | refine blk_drewN ?_ _ | refine blk_drew ?_ | refine blk_alloc ?_ _)); refine blk_put (cs := #[.int .i64 a0_0, .int .i64 a0_1, .slice none 0 0, .slice none 0 0]) ?_ 2 _ rfl; (with_reducible repeat (first | refine blk_drewN ?_ _ | refine blk_drew ?_ | refine blk_alloc ?_ _)); refine blk_put (cs := #[.int .i64 a0_0, .int .i64 0, .slice none 0 0, .slice none 0 0]) ?_ 1 _ rfl; (with_reducible repeat (first | refine blk_drewN ?_ _ | refine blk_drew ?_ | refine blk_alloc ?_ _)); refine blk_put (cs := #[.int .i64 0, .int .i64 0, .slice none 0 0, .slice none 0 0]) ?_ 0 _ rfl; (with_reducible repeat (first | refine blk_drewN ?_ _ | refine blk_drew ?_ | refine blk_alloc ?_ _)); refine blk_far ?_ NB192_193.out _; (with_reducible repeat (first | refine blk_drewN ?_ _ | refine blk_drew ?_ | refine blk_alloc ?_ _)); exact BK192.out) Try.underlying106 rfl (by kernel_rfl)) rfl ?_
 exact ⟨_, _, by first | rfl | (simp [errW_none, errW_some] <;> rfl) | (simp [*, errW_none, errW_some] <;> rfl), rk_ (Kd.R_mono (Kd.R_far (p := ⟨gb192, 3, none⟩) (Kd.R_far (p := ⟨gb192, 2, none⟩) (Kd.R_far (p := ⟨gb192, 1, none⟩) (Kd.R_far (p := ⟨gb192, 0, none⟩) (Kd.R_far (p := ⟨gb193, 3, none⟩) (Kd.R_types (Kd.R_types HO196.out BK193.out (by decide)) BK192.out (by decide)) (fun _ hk => hk.1.2) (.slice Ao18 t197.length co18)) (fun _ hk => hk.2) (.int .i64 a0_0)) (fun _ hk => hk.2) (.int .i64 a0_1)) (fun _ hk => hk.2) (.slice Ao14 t194.length co14)) (fun _ hk => hk.2) (.slice Ao18 t197.length co18)) (fun _ hk => trivial)), rk_ (Kd.R_mono (Kd.R_far (p := ⟨gb192, 3, none⟩) (Kd.R_far (p := ⟨gb192, 2, none⟩) (Kd.R_far (p := ⟨gb192, 1, none⟩) (Kd.R_far (p := ⟨gb192, 0, none⟩) (Kd.R_far (p := ⟨gb193, 3, none⟩) (Kd.R_types (Kd.R_types HO199.out BK193.out (by decide)) BK192.out (by decide)) (fun _ hk => hk.1.2) (.slice Ao18 t197.length co18)) (fun _ hk => hk.2) (.int .i64 a0_0)) (fun _ hk => hk.2) (.int .i64 a0_1)) (fun _ hk => hk.2) (.slice Ao14 t194.length co14)) (fun _ hk => hk.2) (.slice Ao18 t197.length co18)) (fun _ hk => trivial)), by repeat (first | (with_reducible first | exact HB.out | apply below_alloc | apply pw_below_drewN | apply below_drew1 | refine below_set ?_ GE191.out | refine below_set ?_ GE192.out | refine below_set ?_ GE193.out) | exact HB.out)⟩
def impl_within.f (a0 : Int) (a1 : Int) (a2 : Int) : Option (Bool) := if a1 ≤ a0 then (some (decide (a0 ≤ a2))) else (some false)
set_option maxHeartbeats 8000000 in
set_option maxRecDepth 100000 in
theorem impl_within.calls (a0 : Int) (a1 : Int) (a2 : Int) (r : Bool) (w : World) (h : impl_within.f a0 a1 a2 = some r) :
    Calls Try.prog 101 #[.int .i64 a0, .int .i64 a1, .int .i64 a2] w fun e w' => e = .returned (.bool r) ∧ Drawn0 w w' := by
  have H : (if a1 ≤ a0 then (some (decide (a0 ≤ a2))) else (some false)) = some r := h
  clear h
  by_cases c4 : a1 ≤ a0
  · rw [if_pos c4] at H
    have c4b0 : decide (a1 ≤ a0) = true := decide_eq_true c4
    clear c4
    obtain rfl := Option.some.inj H
    go_enter Try.func101, Try.ntmps101
    go_wp2
    go_ret
    exact ⟨by first | rfl | (simp; done) | (simp [*]; done), by repeat (first | exact Drawn0.refl _ | apply Drawn0.step)⟩
  · rw [if_neg c4] at H
    have c4b0 : decide (a1 ≤ a0) = false := decide_eq_false c4
    clear c4
    obtain rfl := Option.some.inj H
    go_enter Try.func101, Try.ntmps101
    go_wp2
    go_ret
    exact ⟨by first | rfl | (simp; done) | (simp [*]; done), by repeat (first | exact Drawn0.refl _ | apply Drawn0.step)⟩
end Go.Proofs.Ytmahecjbejffoaa.PFnExactIsRack
