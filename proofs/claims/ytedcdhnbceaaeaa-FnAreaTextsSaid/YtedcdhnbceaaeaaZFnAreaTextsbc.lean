/- QFnAreaTextsd of the law FnAreaTexts: taken over, declaration by declaration, as far as the law leans on it (the words and the printed functions are the kit's own print). No condition but what each says. -/
import Derived.Test.YtedcdhnbceaaeaaZFnAreaTextsav
import Derived.Test.YtedcdhnbceaaeaaZFnAreaTextsaw
namespace Go.Proofs.Ytedcdhnbceaaeaa.PFnAreaTexts
open Go.RowKit Go.Proofs.YtedcdhnbceaaeaaW.PrintWords Go.Proofs.YtedcdhnbceaaeaaW.PrintLast Go.Proofs.YtedcdhnbceaaeaaW.PrintMore
attribute [local go_sem] max2_int min2_int max_two min_two max_three min_three max_four min_four   -- for this text's walks alone
set_option linter.unusedVariables false
set_option linter.unusedSimpArgs false
open Bool renaming true → t_, false → f_
/-- A state of type 215 at block g of W; what its slices lead to came in by w0. -/
def IsS215 (w0 W : World) (g : Nat) (f0 : List Int) (f1 : Int) (f2 : Int) : Prop := ∃ A0 c0, W.heap[g]? = some (.cells #[.slice A0 f0.length c0, .int .i64 f1, .int .i64 f2] 215 (0, 0)) ∧ w0.heap.size ≤ g ∧ Kd.C (Kd.int .u8) w0 A0 f0.length f0
theorem IsS215.grown {w0 W : World} {g : Nat} {f0 : List Int} {f1 : Int} {f2 : Int} {W1 : World} {row : Option Nat} (h : IsS215 w0 W g f0 f1 f2) (hw : W.grownBy W1 row) (hne : some g ≠ row) : IsS215 w0 W1 g f0 f1 f2 := by
  obtain ⟨A0, c0, hb, hg, hr0⟩ := h
  exact ⟨A0, c0, blk_grown hb hw hne, hg, hr0⟩
theorem IsS215.own_neN {w0 W : World} {g : Nat} {f0 : List Int} {f1 : Int} {f2 : Int} {α : Type} {d : Kd α} {e : Nat} {base : Nat} {ok : Nat → Prop} {v : Value} {xs : List α} (h : IsS215 w0 W g f0 f1 f2) (ho : Kd.N d e W base ok v xs) (ht : e ≠ 215) : some g ≠ v.ownBlock := by
  obtain ⟨A0, c0, hb, hg, hr0⟩ := h
  exact Kd.N_ne ho hb ht
theorem IsS215.fresh {w0 W : World} {g : Nat} {f0 : List Int} {f1 : Int} {f2 : Int} (h : IsS215 w0 W g f0 f1 f2) : ∀ k, W.heap.size ≤ k → k ≠ g := by
  obtain ⟨A0, c0, hb, hg, hr0⟩ := h
  exact Kd.freshB hb
theorem IsS215.kept {w0 W : World} {g : Nat} {f0 : List Int} {f1 : Int} {f2 : Int} {W1 : World} {S : Nat → Prop} (h : IsS215 w0 W g f0 f1 f2) (hk : Kept W W1 S) (hne : ¬ S g) : IsS215 w0 W1 g f0 f1 f2 := by
  obtain ⟨A0, c0, hb, hg, hr0⟩ := h
  exact ⟨A0, c0, blk_kept hb hk hne, hg, hr0⟩
theorem IsS215.below {w0 W : World} {g : Nat} {f0 : List Int} {f1 : Int} {f2 : Int} {W1 : World} (h : IsS215 w0 W g f0 f1 f2) (hw : Below W.heap.size W W1) : IsS215 w0 W1 g f0 f1 f2 := h.grown (grown_of_below hw none) (by simp)
theorem IsS215.alloc {w0 W : World} {g : Nat} {f0 : List Int} {f1 : Int} {f2 : Int} (h : IsS215 w0 W g f0 f1 f2) (o : Obj) : IsS215 w0 (W.alloc o) g f0 f1 f2 := h.below (below_alloc (Below.refl _ _) o)
theorem IsS215.drewN {w0 W : World} {g : Nat} {f0 : List Int} {f1 : Int} {f2 : Int} (h : IsS215 w0 W g f0 f1 f2) (m : Nat) : IsS215 w0 (W.drewN m) g f0 f1 f2 := h
theorem IsS215.drew {w0 W : World} {g : Nat} {f0 : List Int} {f1 : Int} {f2 : Int} (h : IsS215 w0 W g f0 f1 f2) : IsS215 w0 W.drew g f0 f1 f2 := h
theorem IsS215.at_ {w0 W : World} {g : Nat} {f0 : List Int} {f1 : Int} {f2 : Int} {w' : World} {m : Nat} (hq : W.drewN m = w') (h : IsS215 w0 W g f0 f1 f2) : IsS215 w0 w' g f0 f1 f2 := by subst hq; exact IsS215.drewN h m
theorem IsS215.apart {w0 W : World} {g : Nat} {f0 : List Int} {f1 : Int} {f2 : Int} {α : Type} {d : Kd α} {e : Nat} {base : Nat} {ok : Nat → Prop} {v : Value} {xs : List α} (h : IsS215 w0 W g f0 f1 f2) (ho : d.R e W base ok v xs) (ht : ∀ q, q ∈ e :: d.E → q ≠ 215) : d.R e W base (fun k => ok k ∧ k ≠ g) v xs := by
  obtain ⟨A0, c0, hb, hg, hr0⟩ := h
  exact Kd.R_types ho hb ht
theorem IsS215.own_ne {w0 W : World} {g : Nat} {f0 : List Int} {f1 : Int} {f2 : Int} {α : Type} {d : Kd α} {e : Nat} {base : Nat} {ok : Nat → Prop} {v : Value} {xs : List α} (h : IsS215 w0 W g f0 f1 f2) (ho : d.R e W base ok v xs) (ht : e ≠ 215) : some g ≠ v.ownBlock := by
  obtain ⟨A0, c0, hb, hg, hr0⟩ := h
  exact Kd.R_ne ho hb ht
theorem IsS215.apartQ {w0 W : World} {g : Nat} {f0 : List Int} {f1 : Int} {f2 : Int} {α : Type} {d : Kd α} {e : Nat} {base : Nat} {ok : Nat → Prop} {v : Value} {xs : List α} (h : IsS215 w0 W g f0 f1 f2) (ho : d.Q e W base ok v xs) (ht : ∀ q, q ∈ e :: d.E → q ≠ 215) : d.Q e W base (fun k => ok k ∧ k ≠ g) v xs := by
  obtain ⟨A0, c0, hb, hg, hr0⟩ := h
  exact Kd.Q_types ho hb ht
theorem IsS215.own_neQ {w0 W : World} {g : Nat} {f0 : List Int} {f1 : Int} {f2 : Int} {α : Type} {d : Kd α} {e : Nat} {base : Nat} {ok : Nat → Prop} {v : Value} {xs : List α} (h : IsS215 w0 W g f0 f1 f2) (ho : d.Q e W base ok v xs) (ht : e ≠ 215) : some g ≠ v.ownBlock := by
  obtain ⟨A0, c0, hb, hg, hr0⟩ := h
  exact Kd.Q_ne ho hb ht
theorem IsS215.apartS {w0 W : World} {g : Nat} {f0 : List Int} {f1 : Int} {f2 : Int} {α : Type} {d : Kd α} {e : Nat} {base : Nat} {ok : Nat → Prop} {v : Value} {xs : List α} (h : IsS215 w0 W g f0 f1 f2) (ho : d.S e W base ok v xs) (ht : ∀ q, q ∈ e :: d.E → q ≠ 215) : d.S e W base (fun k => ok k ∧ k ≠ g) v xs := by
  obtain ⟨A0, c0, hb, hg, hr0⟩ := h
  exact Kd.S_types ho hb ht
theorem IsS215.own_neS {w0 W : World} {g : Nat} {f0 : List Int} {f1 : Int} {f2 : Int} {α : Type} {d : Kd α} {e : Nat} {base : Nat} {ok : Nat → Prop} {v : Value} {xs : List α} (h : IsS215 w0 W g f0 f1 f2) (ho : d.S e W base ok v xs) (ht : e ≠ 215) : some g ≠ v.ownBlock := by
  obtain ⟨A0, c0, hb, hg, hr0⟩ := h
  exact Kd.S_ne ho hb ht
theorem IsS215.lt {w0 W : World} {g : Nat} {f0 : List Int} {f1 : Int} {f2 : Int} (h : IsS215 w0 W g f0 f1 f2) : g < W.heap.size := by
  obtain ⟨A0, c0, hb, hg, hr0⟩ := h
  exact blk_lt hb
theorem IsS215.ge {w0 W : World} {g : Nat} {f0 : List Int} {f1 : Int} {f2 : Int} (h : IsS215 w0 W g f0 f1 f2) : w0.heap.size ≤ g := by
  obtain ⟨A0, c0, hb, hg, hr0⟩ := h
  exact hg
theorem IsS215.ne_blk {w0 W : World} {g : Nat} {f0 : List Int} {f1 : Int} {f2 : Int} {a : Nat} {cs : Array Value} {t : TypeId} {fr : Nat × Nat} (h : IsS215 w0 W g f0 f1 f2) (hb2 : W.heap[a]? = some (.cells cs t fr)) (ht : t ≠ 215) : g ≠ a := by
  obtain ⟨A0, c0, hb, hg, hr0⟩ := h
  rintro rfl
  rw [hb] at hb2
  injection hb2 with hb2
  injection hb2 with _ ht2
  exact ht ht2.symm
theorem IsS215.far {w0 W : World} {g : Nat} {f0 : List Int} {f1 : Int} {f2 : Int} {p : Addr} (h : IsS215 w0 W g f0 f1 f2) (hne : g ≠ p.block) (u : Value) : IsS215 w0 (W.setCell p u) g f0 f1 f2 := by
  obtain ⟨A0, c0, hb, hg, hr0⟩ := h
  exact ⟨A0, c0, blk_far hb hne u, hg, hr0⟩
theorem cellS215_0 {W : World} {g : Nat} {A0 : Option Addr} {c0 : Nat} {f0 : List Int} {f1 : Int} {f2 : Int} (h : W.heap[g]? = some (.cells #[.slice A0 f0.length c0, .int .i64 f1, .int .i64 f2] 215 (0, 0))) : W.cell? ⟨g, 0, none⟩ = some (.slice A0 f0.length c0) := (blk_cell h 0).trans rfl
theorem cellS215_1 {W : World} {g : Nat} {A0 : Option Addr} {c0 : Nat} {f0 : List Int} {f1 : Int} {f2 : Int} (h : W.heap[g]? = some (.cells #[.slice A0 f0.length c0, .int .i64 f1, .int .i64 f2] 215 (0, 0))) : W.cell? ⟨g, 1, none⟩ = some (.int .i64 f1) := (blk_cell h 1).trans rfl
theorem IsS215.set_1 {w0 W : World} {g : Nat} {f0 : List Int} {f1 : Int} {f2 : Int} (h : IsS215 w0 W g f0 f1 f2) (x : Int) : IsS215 w0 (W.setCell ⟨g, 1, none⟩ (.int .i64 x)) g f0 x f2 := by
  obtain ⟨A0, c0, hb, hg, hr0⟩ := h
  exact ⟨A0, c0, by simpa using blk_set hb 1 (.int .i64 x), hg, hr0⟩
theorem cellS215_2 {W : World} {g : Nat} {A0 : Option Addr} {c0 : Nat} {f0 : List Int} {f1 : Int} {f2 : Int} (h : W.heap[g]? = some (.cells #[.slice A0 f0.length c0, .int .i64 f1, .int .i64 f2] 215 (0, 0))) : W.cell? ⟨g, 2, none⟩ = some (.int .i64 f2) := (blk_cell h 2).trans rfl
theorem IsS215.set_2 {w0 W : World} {g : Nat} {f0 : List Int} {f1 : Int} {f2 : Int} (h : IsS215 w0 W g f0 f1 f2) (x : Int) : IsS215 w0 (W.setCell ⟨g, 2, none⟩ (.int .i64 x)) g f0 f1 x := by
  obtain ⟨A0, c0, hb, hg, hr0⟩ := h
  exact ⟨A0, c0, by simpa using blk_set hb 2 (.int .i64 x), hg, hr0⟩
theorem IsS215.new (w0 W : World) (A0 : Option Addr) (c0 : Nat) (f0 : List Int) (f1 : Int) (f2 : Int) (hB : Below w0.heap.size w0 W) (hr0 : Kd.C (Kd.int .u8) w0 A0 f0.length f0) : IsS215 w0 (W.alloc (.cells #[.slice A0 f0.length c0, .int .i64 f1, .int .i64 f2] 215)) W.heap.size f0 f1 f2 := ⟨A0, c0, by simpa using heap_alloc_new W _, hB.size, hr0⟩
theorem r2_ {P0 Q_ : Prop} (h0 : P0) (s : P0 → Q_ := by intro h0_; repeat (first | (with_reducible first | exact h0_ | apply IsS215.alloc | apply IsS215.drewN | apply IsS215.drew | apply IsS215.set_1 | apply IsS215.set_2) | exact h0_)) : Q_ := s h0
theorem r4_ {P0 P1 Q_ : Prop} (h0 : P0) (h1 : P1) (s : P0 → P1 → Q_ := by intro h0_ h1_; repeat (first | (with_reducible first | exact h0_ | apply below_alloc | apply pw_below_drewN | apply below_drew1 | refine below_set ?_ (IsS215.ge h1_)) | exact h0_)) : Q_ := s h0 h1
theorem r6_ {P0 P1 Q_ : Prop} (h0 : P0) (h1 : P1) (s : P0 → P1 → Q_ := by intro h0_ h1_; repeat (first | (with_reducible first | exact h0_ | apply IsS215.alloc | apply IsS215.drewN | apply IsS215.drew | apply IsS215.set_1 | apply IsS215.set_2 | refine IsS215.far ?_ h1_ _) | exact h0_)) : Q_ := s h0 h1
theorem r8_ {P0 P1 P2 Q_ : Prop} (h0 : P0) (h1 : P1) (h2 : P2) (s : P0 → P1 → P2 → Q_ := by intro h0_ h1_ h2_; repeat (first | (with_reducible first | exact h0_ | apply IsS215.alloc | apply IsS215.drewN | apply IsS215.drew | apply IsS215.set_1 | apply IsS215.set_2 | refine IsS215.far ?_ h1_ _ | refine IsS215.far ?_ h2_ _) | exact h0_)) : Q_ := s h0 h1 h2
theorem r10_ {P0 P1 P2 Q_ : Prop} (h0 : P0) (h1 : P1) (h2 : P2) (s : P0 → P1 → P2 → Q_ := by intro h0_ h1_ h2_; repeat (first | (with_reducible first | exact h0_ | apply below_alloc | apply pw_below_drewN | apply below_drew1 | refine below_set ?_ (IsS215.ge h1_) | refine below_set ?_ h2_) | exact h0_)) : Q_ := s h0 h1 h2
def spec_l01From.l0 : Nat → List Int → Int → List Int → Int → Int → Option (List Int × Int × Int)
 | 0, _, _, _, _, _ => none
 | k + 1, x0, x4, x233000, x233001, x233002 => if x4 < (x0.length : Int) then (if x4 < 64 then (if 0 ≤ x4 then (spec_l01From.l0 k x0 (wrap64 (x4 + 1)) x233000 x233001 (Int.tmod (wrap64 ((wrap64 (x233002 * 83)) + (wrap64 (rd x0 x4)))) 2147483647)) else (none)) else (some (x233000, x233001, x233002))) else (some (x233000, x233001, x233002))
def spec_l01From.f (k : Nat) (l0 : List Int) : Option (List Int × Int × Int) := spec_l01From.l0 k l0 0 l0 0 61043
def spec_l01From.T5 : Bool × List (List Nat × List Nat) := (true, [([], []), ([], []), ([1], [1]), ([2], [2]), ([3], [3]), ([4], [4]), ([], []), ([], []), ([6, 7], [6, 7]), ([8], [8]), ([9], [9]), ([5, 10], [5, 10]), ([11], [11]), ([0, 0, 1, 2, 3, 4, 5, 6, 7, 8, 9, 10, 11, 12], [0]), ([13, 0, 1, 2, 3, 4, 5, 6, 7, 8, 9, 10, 11, 12], [13]), ([14, 12, 0, 1, 2, 3, 4, 5, 6, 7, 8, 9, 10, 11, 12], [12, 14])])
def spec_l01From.B5 : List Nat := [0, 0, 2, 6, 14, 30, 0, 0, 192, 448, 960, 2046, 4094, 8191, 16383, 32767]
theorem spec_l01From.tab5 : rtab .any (opsOf Try.f123 5) = spec_l01From.T5 := by kernel_rfl
theorem spec_l01From.bits5 : waitsOk spec_l01From.T5.2 spec_l01From.B5 = true := by kernel_rfl
set_option maxHeartbeats 8000000 in
set_option maxRecDepth 100000 in
theorem spec_l01From.calls (k : Nat) (A0 : Option Addr) (c0 : Nat) (l0 : List Int) (r1 : List Int) (r2 : Int) (r3 : Int) (w0 w : World) (hB : Below w0.heap.size w0 w) (hr0 : Kd.C (Kd.int .u8) w0 A0 l0.length l0) (hc0 : l0.length ≤ c0) (h : spec_l01From.f k l0 = some (r1, r2, r3)) :
  Calls Try.prog 123 #[.slice A0 l0.length c0] w fun e w' => ∃ g_ : Nat, e = .returned (.pointer (some ⟨g_, 0, none⟩)) ∧ IsS215 w0 w' g_ r1 r2 r3 ∧ Below w0.heap.size w0 w' ∧ Below w.heap.size w w' := by
 have hu215 := Try.underlying215
 have HR0 := Aside0.mk hr0
 have HC0 := Aside0.mk hc0
 clear hr0 hc0
 have HBW := Aside0.mk (Below.refl w.heap.size w)
 have HW0 := Aside0.mk hB.size
 have HB := Aside0.mk hB
 clear hB
 have H : (spec_l01From.l0 k l0 0 l0 0 61043) = some (r1, r2, r3) := h
 clear h
 have H' := Aside0.mk H
 clear H
 go_enter Try.func123, Try.ntmps123
 go_wp2_with (first | ((with_reducible refine gate_dst (N := 7) rfl ?_); refine box_event ?hg (N := 7) ?hd (cs := #[.slice A0 l0.length c0, .int .i64 0, .int .i64 61043]) (t := 215) ?hr ?_; (case hd => rfl); (case hg => rfl); (case hr => first | (go_simp; done) | (go_simp; rfl)); intro gb232 hg w2 hbox hb; replace HB := Aside0.mk (below_step (bl_ HB.out) hb); have BK232 := Aside0.mk (hbox); have GW232 := Aside0.mk ((by rw [hg]; exact (below_size (r14_ HBW.out)) : w.heap.size ≤ gb232)); have GE232 := Aside0.mk ((Nat.le_trans HW0.out (by rw [hg]; exact (below_size (r14_ HBW.out)) : w.heap.size ≤ gb232) : w0.heap.size ≤ gb232)); replace HBW := Aside0.mk (below_step HBW.out hb); clear hb hbox hg))
 go_loopg [4] k (fun kq v4 w' => ∃ (x4_1 : Int) (x233002_1 : Int), v4 = .int .i64 x4_1 ∧ Aside0 (spec_l01From.l0 kq l0 x4_1 l0 0 x233002_1 = some (r1, r2, r3)) ∧ Aside0 (kq ≤ k) ∧ Aside0 (w'.heap[gb232]? = some (.cells #[(.slice A0 l0.length c0), .int .i64 0, .int .i64 x233002_1] 215 (0, 0))) ∧ Aside0 (Below w0.heap.size w0 w') ∧ Aside0 (Below w.heap.size w w'))
 case atStart => exact ⟨(0), (61043), (by first | rfl | (simp; done) | (simp [*]; done)), H', ⟨Nat.le_refl _⟩, ⟨r0_ BK232.out⟩, ⟨r1_ HB.out GE232.out⟩, ⟨r1_ HBW.out GW232.out⟩⟩
 case round =>
  clear H'
  try clear c1
  try clear p2
  obtain ⟨x4_1, x233002_1, rfl, HA, HK1, BK232, HB, HBW⟩ := hrel
  cases gk with
  | zero => exact absurd HA.out (by simp [spec_l01From.l0])
  | succ k1 =>
   have H := HA.out
   clear HA
   simp only [spec_l01From.l0] at H
   by_cases c3 : x4_1 < (l0.length : Int)
   ·rw [if_pos c3] at H
    have c3b0 : decide (x4_1 < (l0.length : Int)) = true := decide_eq_true c3
    clear c3
    by_cases c4 : x4_1 < 64
    ·rw [if_pos c4] at H
     have c4b0 : decide (x4_1 < 64) = true := decide_eq_true c4
     clear c4
     by_cases c5 : 0 ≤ x4_1
     case neg =>
      rw [if_neg c5] at H
      exact absurd H (by simp)
     rw [if_pos c5] at H
     have c5b0 : decide (0 ≤ x4_1) = true := decide_eq_true c5
     clear c5
     have H' := Aside0.mk H
     clear H
     try go_wp2
     have n0_ := Aside0.mk (blk_drew BK232.out)
     have nw_ := Aside0.mk (below_drew1 HBW.out)
     clear HBW
     have HBW := nw_
     clear nw_
     have n1_ := Aside0.mk (below_drew1 HB.out)
     clear BK232
     clear HB
     have BK232 := n0_
     have HB := n1_
     clear n0_ n1_
     have p233 : 0 ≤ (x4_1 : Int) := od_
     have q233 : x4_1 < (l0.length : Int) := od_
     obtain ⟨ad233, e233, hx233_0⟩ := Kd.at_int HR0.out x4_1 p233 q233
     have hw233_0 := hx233_0
     cases e233
     replace hx233_0 := pw_cell_below HB.out hx233_0
     replace p233 := eq_true p233
     replace q233 := eq_true q233
     refine start_ (n := 16) (S := fun w' => w'.cell? ⟨gb232, 0, none⟩ = some (.slice (some ad233) l0.length c0) ∧ w'.cell? ⟨gb232, 1, none⟩ = some (.int .i64 0) ∧ w'.cell? ⟨gb232, 2, none⟩ = some (.int .i64 x233002_1) ∧ w'.cell? (ad233.add (x4_1).toNat) = some (.int .u8 (rd l0 x4_1))) (ds := [15]) #[f_,f_,f_,f_,f_,f_,f_,f_,f_,f_,f_,f_,f_,f_,f_,f_] (by kernel_rfl) rfl rfl ⟨(blk_cell BK232.out 0).trans rfl, (blk_cell BK232.out 1).trans rfl, (blk_cell BK232.out 2).trans rfl, ((HB.out.cell (World.block_lt_of_cell? w0 _ hw233_0)).trans hw233_0)⟩ (fun hHeld => ?_); refine with_tabW spec_l01From.tab5 spec_l01From.bits5 (fun HT_ HW_ => ?_)
     generalize wr.drew = w6 at BK232 HB HBW hx233_0 hHeld ⊢
     refine pu_ 0 18 #[t_,f_,f_,f_,f_,f_,f_,f_,f_,f_,f_,f_,f_,f_,f_,f_] HT_.out ?_
     refine pu_ 1 19 #[t_,t_,f_,f_,f_,f_,f_,f_,f_,f_,f_,f_,f_,f_,f_,f_] HT_.out ?_
     refine pu_ 2 20 #[t_,t_,t_,f_,f_,f_,f_,f_,f_,f_,f_,f_,f_,f_,f_,f_] HT_.out ?_
     refine pu_ 3 21 #[t_,t_,t_,t_,f_,f_,f_,f_,f_,f_,f_,f_,f_,f_,f_,f_] HT_.out ?_
     refine pu_ 6 24 #[t_,t_,t_,t_,f_,f_,t_,f_,f_,f_,f_,f_,f_,f_,f_,f_] HT_.out ?_
     refine pu_ 7 25 #[t_,t_,t_,t_,f_,f_,t_,t_,f_,f_,f_,f_,f_,f_,f_,f_] HT_.out ?_
     refine pu_ 8 26 #[t_,t_,t_,t_,f_,f_,t_,t_,t_,f_,f_,f_,f_,f_,f_,f_] HT_.out ?_
     refine take_ (i := 4) (N := some 22) (v := ?_) (a' := ?_) #[t_,t_,t_,t_,t_,f_,t_,t_,t_,f_,f_,f_,f_,f_,f_,f_] rfl rfl (take_ofW HT_.out HW_.out (by kernel_rfl)) (fun _ _ _ h => h) (Or.inl ⟨by rfl, ?_⟩) hHeld ?_ ?_
     rotate_left
     ·rintro w' ⟨s0, s1, s2, s3⟩
      go_simp
      with_reducible rfl
     rotate_left
     ·simp only [pz_]
      rfl
     refine pu_ 5 23 #[t_,t_,t_,t_,t_,t_,t_,t_,t_,f_,f_,f_,f_,f_,f_,f_] HT_.out ?_
     refine take_ (i := 9) (N := some 27) (v := ?_) (a' := ?_) #[t_,t_,t_,t_,t_,t_,t_,t_,t_,t_,f_,f_,f_,f_,f_,f_] rfl rfl (take_ofW HT_.out HW_.out (by kernel_rfl)) (fun _ _ _ h => h) (Or.inl ⟨by rfl, ?_⟩) hHeld ?_ ?_
     rotate_left
     ·rintro w' ⟨s0, s1, s2, s3⟩
      go_simp
      with_reducible rfl
     rotate_left
     ·simp only [pz_]
      rfl
     refine pu_ 10 28 #[t_,t_,t_,t_,t_,t_,t_,t_,t_,t_,t_,f_,f_,f_,f_,f_] HT_.out ?_
     refine pu_ 11 29 #[t_,t_,t_,t_,t_,t_,t_,t_,t_,t_,t_,t_,f_,f_,f_,f_] HT_.out ?_
     refine pu_ 12 30 #[t_,t_,t_,t_,t_,t_,t_,t_,t_,t_,t_,t_,t_,f_,f_,f_] HT_.out ?_
     refine pu_ 13 31 #[t_,t_,t_,t_,t_,t_,t_,t_,t_,t_,t_,t_,t_,t_,f_,f_] HT_.out ?_
     refine pu_ 14 32 #[t_,t_,t_,t_,t_,t_,t_,t_,t_,t_,t_,t_,t_,t_,t_,f_] HT_.out ?_
     refine last_ (i := 15) (N := none) #[t_,t_,t_,t_,t_,t_,t_,t_,t_,t_,t_,t_,t_,t_,t_,t_] rfl rfl (one_of HT_.out (by kernel_rfl)) (by decide) (fun K hK => ?_)
     have hs7 : w6.cell? ⟨gb232, 2, none⟩ = some (.int .i64 x233002_1) := (blk_cell BK232.out 2).trans rfl
     have hfs7 := blk_frozen BK232.out 2
     refine skip_ (w1 := ?_) (by rfl) rfl ?_ ?_
     rotate_left
     ·go_simp
      rfl
     refine hK.out _ _ ?_
     clear hK K
     refine done_ (done_of HT_.out (by kernel_rfl)) ?_
     try go_wp2
     go_roundg k1
     case measure => have := HK1.out; omega
     case rel => exact ⟨(wrap64 (x4_1 + 1)), (Int.tmod (wrap64 ((wrap64 (x233002_1 * 83)) + (wrap64 (rd l0 x4_1)))) 2147483647), (by first | rfl | (simp; done) | (simp [*]; done)), H', ⟨by have := HK1.out; omega⟩, ⟨by (with_reducible repeat (first | refine blk_drewN ?_ _ | refine blk_drew ?_ | refine blk_alloc ?_ _)); refine blk_put (cs := #[.slice (some ad233) l0.length c0, .int .i64 0, .int .i64 x233002_1]) ?_ 2 _ rfl; (with_reducible repeat (first | refine blk_drewN ?_ _ | refine blk_drew ?_ | refine blk_alloc ?_ _)); exact BK232.out⟩, ⟨r1_ HB.out GE232.out⟩, ⟨r1_ HBW.out GW232.out⟩⟩
    ·rw [if_neg c4] at H
     have c4b0 : decide (x4_1 < 64) = false := decide_eq_false c4
     clear c4
     simp only [Option.some.injEq, Prod.mk.injEq] at H
     obtain ⟨rfl, rfl, rfl⟩ := H
     go_wp2
     go_ret
     exact ⟨_, rfl, (show IsS215 w0 _ gb232 l0 0 x233002_1 from ⟨_, _, r0_ BK232.out, GE232.out, HR0.out⟩), r1_ HB.out GE232.out, r1_ HBW.out GW232.out⟩
   ·rw [if_neg c3] at H
    have c3b0 : decide (x4_1 < (l0.length : Int)) = false := decide_eq_false c3
    clear c3
    simp only [Option.some.injEq, Prod.mk.injEq] at H
    obtain ⟨rfl, rfl, rfl⟩ := H
    go_wp2
    go_ret
    exact ⟨_, rfl, (show IsS215 w0 _ gb232 l0 0 x233002_1 from ⟨_, _, r0_ BK232.out, GE232.out, HR0.out⟩), r1_ HB.out GE232.out, r1_ HBW.out GW232.out⟩
def spec_l01Next.f (s0_0 : List Int) (s0_1 : Int) (s0_2 : Int) (a1 : Int) : Option (Int × Int × Int) := if a1 ≤ 1 then (some (0, s0_1, s0_2)) else (if s0_1 < (s0_0.length : Int) then (if 0 ≤ s0_1 then (if a1 ≤ 256 then (if (Int.tmod (wrap64 (s0_1 + 1)) 2) = 0 then (if 0 ≤ (wrap64 ((wrap64 (s0_1 + 1)) - 1)) then (if (wrap64 ((wrap64 (s0_1 + 1)) - 1)) < (s0_0.length : Int) then (if a1 = 0 then (none) else (some (Int.tmod (wrap64 (rd s0_0 (wrap64 ((wrap64 (s0_1 + 1)) - 1)))) a1, wrap64 (s0_1 + 1), Int.tmod (wrap64 ((wrap64 (s0_2 * 48271)) + 29)) 2147483647))) else (none)) else (none)) else (if a1 = 0 then (none) else (some (Int.tmod (wrap64 ((wrap64 (Int.tdiv (Int.tmod (wrap64 ((wrap64 (s0_2 * 48271)) + 29)) 2147483647) 31)) + (wrap64 (rd s0_0 s0_1)))) a1, wrap64 (s0_1 + 1), Int.tmod (wrap64 ((wrap64 (s0_2 * 48271)) + 29)) 2147483647)))) else (if a1 = 0 then (none) else (some (Int.tmod (wrap64 ((wrap64 (Int.tdiv (Int.tmod (wrap64 ((wrap64 (s0_2 * 48271)) + 29)) 2147483647) 31)) + (wrap64 (rd s0_0 s0_1)))) a1, wrap64 (s0_1 + 1), Int.tmod (wrap64 ((wrap64 (s0_2 * 48271)) + 29)) 2147483647)))) else (none)) else (if a1 = 0 then (none) else (some (Int.tmod (wrap64 (Int.tdiv (Int.tmod (wrap64 ((wrap64 (s0_2 * 48271)) + 29)) 2147483647) 31)) a1, s0_1, Int.tmod (wrap64 ((wrap64 (s0_2 * 48271)) + 29)) 2147483647))))
set_option maxHeartbeats 8000000 in
set_option maxRecDepth 100000 in
theorem spec_l01Next.calls (g : Nat) (s0_0 : List Int) (s0_1 : Int) (s0_2 : Int) (a1 : Int) (r1 : Int) (r2 : Int) (r3 : Int) (w0 w : World) (hI : IsS215 w0 w g s0_0 s0_1 s0_2) (hB : Below w0.heap.size w0 w) (h : spec_l01Next.f s0_0 s0_1 s0_2 a1 = some (r1, r2, r3)) :
  Calls Try.prog 129 #[.pointer (some ⟨g, 0, none⟩), .int .i64 a1] w fun e w' => e = .returned (.int .i64 r1) ∧ IsS215 w0 w' g s0_0 r2 r3 ∧ Below w0.heap.size w0 w' ∧ KeepBut w w' g none := by
 have HI0 := Aside0.mk hI
 have HK := Aside0.mk (KeepBut.refl w g none)
 have HL := Aside0.mk hB.size
 clear hI
 have HW0 := Aside0.mk hB.size
 have HB := Aside0.mk hB
 clear hB
 have H : (if a1 ≤ 1 then (some (0, s0_1, s0_2)) else (if s0_1 < (s0_0.length : Int) then (if 0 ≤ s0_1 then (if a1 ≤ 256 then (if (Int.tmod (wrap64 (s0_1 + 1)) 2) = 0 then (if 0 ≤ (wrap64 ((wrap64 (s0_1 + 1)) - 1)) then (if (wrap64 ((wrap64 (s0_1 + 1)) - 1)) < (s0_0.length : Int) then (if a1 = 0 then (none) else (some (Int.tmod (wrap64 (rd s0_0 (wrap64 ((wrap64 (s0_1 + 1)) - 1)))) a1, wrap64 (s0_1 + 1), Int.tmod (wrap64 ((wrap64 (s0_2 * 48271)) + 29)) 2147483647))) else (none)) else (none)) else (if a1 = 0 then (none) else (some (Int.tmod (wrap64 ((wrap64 (Int.tdiv (Int.tmod (wrap64 ((wrap64 (s0_2 * 48271)) + 29)) 2147483647) 31)) + (wrap64 (rd s0_0 s0_1)))) a1, wrap64 (s0_1 + 1), Int.tmod (wrap64 ((wrap64 (s0_2 * 48271)) + 29)) 2147483647)))) else (if a1 = 0 then (none) else (some (Int.tmod (wrap64 ((wrap64 (Int.tdiv (Int.tmod (wrap64 ((wrap64 (s0_2 * 48271)) + 29)) 2147483647) 31)) + (wrap64 (rd s0_0 s0_1)))) a1, wrap64 (s0_1 + 1), Int.tmod (wrap64 ((wrap64 (s0_2 * 48271)) + 29)) 2147483647)))) else (none)) else (if a1 = 0 then (none) else (some (Int.tmod (wrap64 (Int.tdiv (Int.tmod (wrap64 ((wrap64 (s0_2 * 48271)) + 29)) 2147483647) 31)) a1, s0_1, Int.tmod (wrap64 ((wrap64 (s0_2 * 48271)) + 29)) 2147483647))))) = some (r1, r2, r3) := h
 clear h
 by_cases c3 : a1 ≤ 1
 ·rw [if_pos c3] at H
  have c3b0 : decide (a1 ≤ 1) = true := decide_eq_true c3
  clear c3
  simp only [Option.some.injEq, Prod.mk.injEq] at H
  obtain ⟨rfl, rfl, rfl⟩ := H
  go_enter Try.func129, Try.ntmps129
  go_wp2
  repeat (go_quiet (fail); try go_wp2)
  go_ret
  exact ⟨by first | rfl | (simp [errW_none, errW_some] <;> rfl) | (simp [*, errW_none, errW_some] <;> rfl), r2_ HI0.out, r4_ HB.out HI0.out, r3_ HK.out⟩
 ·rw [if_neg c3] at H
  have c3b0 : decide (a1 ≤ 1) = false := decide_eq_false c3
  clear c3
  by_cases c4 : s0_1 < (s0_0.length : Int)
  ·rw [if_pos c4] at H
   have c4b0 : decide (s0_1 < (s0_0.length : Int)) = true := decide_eq_true c4
   clear c4
   by_cases c5 : 0 ≤ s0_1
   case neg =>
    rw [if_neg c5] at H
    exact absurd H (by simp)
   rw [if_pos c5] at H
   have c5b0 : decide (0 ≤ s0_1) = true := decide_eq_true c5
   clear c5
   by_cases c6 : a1 ≤ 256
   ·rw [if_pos c6] at H
    have c6b0 : decide (a1 ≤ 256) = true := decide_eq_true c6
    clear c6
    by_cases c7 : (Int.tmod (wrap64 (s0_1 + 1)) 2) = 0
    ·rw [if_pos c7] at H
     have c7b0 : ((Int.tmod (wrap64 (s0_1 + 1)) 2) == 0) = true := beq_iff_eq.mpr c7
     have c7b1 : ((Int.tmod (wrap64 (s0_1 + 1)) 2) != 0) = false := bne_eq_false_iff_eq.mpr c7
     clear c7
     obtain ⟨ji8, hji8⟩ : ∃ j_ : Int, (wrap64 ((wrap64 (s0_1 + 1)) - 1)) = j_ := ⟨_, rfl⟩
     replace H : (if 0 ≤ (ji8) then (if (ji8) < (s0_0.length : Int) then (if a1 = 0 then (none) else (some (Int.tmod (wrap64 (rd s0_0 (ji8))) a1, wrap64 (s0_1 + 1), Int.tmod (wrap64 ((wrap64 (s0_2 * 48271)) + 29)) 2147483647))) else (none)) else (none)) = some (r1, r2, r3) := by first | (rw [hji8] at H; exact H) | (simp only [hji8] at H ⊢; exact H)
     have hji8w : (IntKind.i64.wrap ((wrap64 (s0_1 + 1)) - 1)) = ji8 := (i64_w _).trans hji8
     by_cases c9 : 0 ≤ (ji8)
     case neg =>
      rw [if_neg c9] at H
      exact absurd H (by simp)
     rw [if_pos c9] at H
     have c9b0 : decide (0 ≤ (ji8)) = true := decide_eq_true c9
     clear c9
     by_cases c10 : (ji8) < (s0_0.length : Int)
     case neg =>
      rw [if_neg c10] at H
      exact absurd H (by simp)
     rw [if_pos c10] at H
     have c10b0 : decide ((ji8) < (s0_0.length : Int)) = true := decide_eq_true c10
     clear c10
     by_cases c11 : a1 = 0
     case pos =>
      rw [if_pos c11] at H
      exact absurd H (by simp)
     rw [if_neg c11] at H
     have c11b0 : (a1 == 0) = false := beq_eq_false_iff_ne.mpr c11
     have c11b1 : (a1 != 0) = true := bne_iff_ne.mpr c11
     simp only [Option.some.injEq, Prod.mk.injEq] at H
     obtain ⟨rfl, rfl, rfl⟩ := H
     obtain ⟨ASz12_0, cSz12_0, HGz12, hgz12, HSz12_0⟩ := HI0.out
     have hcz12_0 := cellS215_0 HGz12
     have hcz12_1 := cellS215_1 HGz12
     have hcz12_2 := cellS215_2 HGz12
     have hfz12_1 := blk_frozen HGz12 1
     have hfz12_2 := blk_frozen HGz12 2
     clear HGz12 hgz12
     have p234 : 0 ≤ (s0_1 : Int) := od_
     have q234 : s0_1 < (s0_0.length : Int) := od_
     obtain ⟨ad234, e234, hx234_0⟩ := Kd.at_int HSz12_0 s0_1 p234 q234
     cases e234
     have hn234_0 : ad234.block ≠ g := Nat.ne_of_lt (Nat.lt_of_lt_of_le (by have := World.block_lt_of_cell? _ _ hx234_0; first | rwa [add_block] at this | exact this) (IsS215.ge HI0.out))
     replace hx234_0 := pw_cell_below HB.out hx234_0
     replace hx234_0 := (cell_far (p := ⟨g, 2, none⟩) (by first | (rw [add_block]; exact hn234_0) | (show (Addr.add _ _).block ≠ _; rw [add_block]; exact hn234_0) | exact hn234_0) (.int .i64 (Int.tmod (wrap64 ((wrap64 (s0_2 * 48271)) + 29)) 2147483647))).trans hx234_0
     (try have hy234_0 := fun (n_ : Nat) => (show (((w.drewN n_).setCell ⟨g, 2, none⟩ (.int .i64 (Int.tmod (wrap64 ((wrap64 (s0_2 * 48271)) + 29)) 2147483647)))).cell? _ = some _ from hx234_0))
     clear hn234_0
     replace p234 := eq_true p234
     replace q234 := eq_true q234
     have p235 : 0 ≤ ((ji8) : Int) := od_
     have q235 : (ji8) < (s0_0.length : Int) := od_
     obtain ⟨ad235, e235, hx235_0⟩ := Kd.at_int HSz12_0 (ji8) p235 q235
     obtain rfl : ad234 = ad235 := (by injection e235)
     have hn235_0 : ad234.block ≠ g := Nat.ne_of_lt (Nat.lt_of_lt_of_le (by have := World.block_lt_of_cell? _ _ hx235_0; first | rwa [add_block] at this | exact this) (IsS215.ge HI0.out))
     have hn235_1 : ad234.block ≠ g := Nat.ne_of_lt (Nat.lt_of_lt_of_le (by have := World.block_lt_of_cell? _ _ hx235_0; first | rwa [add_block] at this | exact this) (IsS215.ge HI0.out))
     replace hx235_0 := pw_cell_below HB.out hx235_0
     replace hx235_0 := (cell_far (p := ⟨g, 2, none⟩) (by first | (rw [add_block]; exact hn235_0) | (show (Addr.add _ _).block ≠ _; rw [add_block]; exact hn235_0) | exact hn235_0) (.int .i64 (Int.tmod (wrap64 ((wrap64 (s0_2 * 48271)) + 29)) 2147483647))).trans hx235_0
     replace hx235_0 := (cell_far (p := ⟨g, 1, none⟩) (by first | (rw [add_block]; exact hn235_1) | (show (Addr.add _ _).block ≠ _; rw [add_block]; exact hn235_1) | exact hn235_1) (.int .i64 (wrap64 (s0_1 + 1)))).trans hx235_0
     (try have hy235_0 := fun (n_ : Nat) => (show ((((w.drewN n_).setCell ⟨g, 2, none⟩ (.int .i64 (Int.tmod (wrap64 ((wrap64 (s0_2 * 48271)) + 29)) 2147483647))).setCell ⟨g, 1, none⟩ (.int .i64 (wrap64 (s0_1 + 1))))).cell? _ = some _ from hx235_0))
     (try have hz235_0 := fun (n_ : Nat) => (show ((((w.setCell ⟨g, 2, none⟩ (.int .i64 (Int.tmod (wrap64 ((wrap64 (s0_2 * 48271)) + 29)) 2147483647))).drewN n_).setCell ⟨g, 1, none⟩ (.int .i64 (wrap64 (s0_1 + 1))))).cell? _ = some _ from hx235_0))
     clear hn235_0
     clear hn235_1
     replace p235 := eq_true p235
     replace q235 := eq_true q235
     go_enter Try.func129, Try.ntmps129
     go_wp2
     repeat (go_quiet (fail); try go_wp2)
     go_ret
     exact ⟨by first | rfl | (simp [errW_none, errW_some] <;> rfl) | (simp only [← hji8]; first | rfl | (simp [errW_none, errW_some] <;> rfl)) | (simp [*, errW_none, errW_some] <;> rfl), r2_ HI0.out, r4_ HB.out HI0.out, r3_ HK.out⟩
    ·rw [if_neg c7] at H
     have c7b0 : ((Int.tmod (wrap64 (s0_1 + 1)) 2) == 0) = false := beq_eq_false_iff_ne.mpr c7
     have c7b1 : ((Int.tmod (wrap64 (s0_1 + 1)) 2) != 0) = true := bne_iff_ne.mpr c7
     by_cases c13 : a1 = 0
     case pos =>
      rw [if_pos c13] at H
      exact absurd H (by simp)
     rw [if_neg c13] at H
     have c13b0 : (a1 == 0) = false := beq_eq_false_iff_ne.mpr c13
     have c13b1 : (a1 != 0) = true := bne_iff_ne.mpr c13
     simp only [Option.some.injEq, Prod.mk.injEq] at H
     obtain ⟨rfl, rfl, rfl⟩ := H
     obtain ⟨ASz14_0, cSz14_0, HGz14, hgz14, HSz14_0⟩ := HI0.out
     have hcz14_0 := cellS215_0 HGz14
     have hcz14_1 := cellS215_1 HGz14
     have hcz14_2 := cellS215_2 HGz14
     have hfz14_1 := blk_frozen HGz14 1
     have hfz14_2 := blk_frozen HGz14 2
     clear HGz14 hgz14
     have p234 : 0 ≤ (s0_1 : Int) := od_
     have q234 : s0_1 < (s0_0.length : Int) := od_
     obtain ⟨ad234, e234, hx234_0⟩ := Kd.at_int HSz14_0 s0_1 p234 q234
     cases e234
     have hn234_0 : ad234.block ≠ g := Nat.ne_of_lt (Nat.lt_of_lt_of_le (by have := World.block_lt_of_cell? _ _ hx234_0; first | rwa [add_block] at this | exact this) (IsS215.ge HI0.out))
     replace hx234_0 := pw_cell_below HB.out hx234_0
     replace hx234_0 := (cell_far (p := ⟨g, 2, none⟩) (by first | (rw [add_block]; exact hn234_0) | (show (Addr.add _ _).block ≠ _; rw [add_block]; exact hn234_0) | exact hn234_0) (.int .i64 (Int.tmod (wrap64 ((wrap64 (s0_2 * 48271)) + 29)) 2147483647))).trans hx234_0
     (try have hy234_0 := fun (n_ : Nat) => (show (((w.drewN n_).setCell ⟨g, 2, none⟩ (.int .i64 (Int.tmod (wrap64 ((wrap64 (s0_2 * 48271)) + 29)) 2147483647)))).cell? _ = some _ from hx234_0))
     clear hn234_0
     replace p234 := eq_true p234
     replace q234 := eq_true q234
     go_enter Try.func129, Try.ntmps129
     go_wp2
     repeat (go_quiet (fail); try go_wp2)
     go_ret
     exact ⟨by first | rfl | (simp [errW_none, errW_some] <;> rfl) | (simp [*, errW_none, errW_some] <;> rfl), r2_ HI0.out, r4_ HB.out HI0.out, r3_ HK.out⟩
   ·rw [if_neg c6] at H
    have c6b0 : decide (a1 ≤ 256) = false := decide_eq_false c6
    clear c6
    by_cases c15 : a1 = 0
    case pos =>
     rw [if_pos c15] at H
     exact absurd H (by simp)
    rw [if_neg c15] at H
    have c15b0 : (a1 == 0) = false := beq_eq_false_iff_ne.mpr c15
    have c15b1 : (a1 != 0) = true := bne_iff_ne.mpr c15
    simp only [Option.some.injEq, Prod.mk.injEq] at H
    obtain ⟨rfl, rfl, rfl⟩ := H
    obtain ⟨ASz16_0, cSz16_0, HGz16, hgz16, HSz16_0⟩ := HI0.out
    have hcz16_0 := cellS215_0 HGz16
    have hcz16_1 := cellS215_1 HGz16
    have hcz16_2 := cellS215_2 HGz16
    have hfz16_1 := blk_frozen HGz16 1
    have hfz16_2 := blk_frozen HGz16 2
    clear HGz16 hgz16
    have p234 : 0 ≤ (s0_1 : Int) := od_
    have q234 : s0_1 < (s0_0.length : Int) := od_
    obtain ⟨ad234, e234, hx234_0⟩ := Kd.at_int HSz16_0 s0_1 p234 q234
    cases e234
    have hn234_0 : ad234.block ≠ g := Nat.ne_of_lt (Nat.lt_of_lt_of_le (by have := World.block_lt_of_cell? _ _ hx234_0; first | rwa [add_block] at this | exact this) (IsS215.ge HI0.out))
    replace hx234_0 := pw_cell_below HB.out hx234_0
    replace hx234_0 := (cell_far (p := ⟨g, 2, none⟩) (by first | (rw [add_block]; exact hn234_0) | (show (Addr.add _ _).block ≠ _; rw [add_block]; exact hn234_0) | exact hn234_0) (.int .i64 (Int.tmod (wrap64 ((wrap64 (s0_2 * 48271)) + 29)) 2147483647))).trans hx234_0
    (try have hy234_0 := fun (n_ : Nat) => (show (((w.drewN n_).setCell ⟨g, 2, none⟩ (.int .i64 (Int.tmod (wrap64 ((wrap64 (s0_2 * 48271)) + 29)) 2147483647)))).cell? _ = some _ from hx234_0))
    clear hn234_0
    replace p234 := eq_true p234
    replace q234 := eq_true q234
    go_enter Try.func129, Try.ntmps129
    go_wp2
    repeat (go_quiet (fail); try go_wp2)
    go_ret
    exact ⟨by first | rfl | (simp [errW_none, errW_some] <;> rfl) | (simp [*, errW_none, errW_some] <;> rfl), r2_ HI0.out, r4_ HB.out HI0.out, r3_ HK.out⟩
  ·rw [if_neg c4] at H
   have c4b0 : decide (s0_1 < (s0_0.length : Int)) = false := decide_eq_false c4
   clear c4
   by_cases c17 : a1 = 0
   case pos =>
    rw [if_pos c17] at H
    exact absurd H (by simp)
   rw [if_neg c17] at H
   have c17b0 : (a1 == 0) = false := beq_eq_false_iff_ne.mpr c17
   have c17b1 : (a1 != 0) = true := bne_iff_ne.mpr c17
   simp only [Option.some.injEq, Prod.mk.injEq] at H
   obtain ⟨rfl, rfl, rfl⟩ := H
   obtain ⟨ASz18_0, cSz18_0, HGz18, hgz18, HSz18_0⟩ := HI0.out
   have hcz18_0 := cellS215_0 HGz18
   have hcz18_1 := cellS215_1 HGz18
   have hcz18_2 := cellS215_2 HGz18
   have hfz18_1 := blk_frozen HGz18 1
   have hfz18_2 := blk_frozen HGz18 2
   clear HGz18 hgz18
   go_enter Try.func129, Try.ntmps129
   go_wp2
   repeat (go_quiet (fail); try go_wp2)
   go_ret
   exact ⟨by first | rfl | (simp [errW_none, errW_some] <;> rfl) | (simp [*, errW_none, errW_some] <;> rfl), r2_ HI0.out, r4_ HB.out HI0.out, r3_ HK.out⟩
def spec_l01Pick.f (s0_0 : List Int) (s0_1 : Int) (s0_2 : Int) (l1 : List Int) : Option (Int × Int × Int) := (spec_l01Next.f s0_0 s0_1 s0_2 (l1.length : Int)).bind fun bt236 => (if 0 ≤ bt236.1 then (if bt236.1 < (l1.length : Int) then (some (rd l1 bt236.1, bt236.2.1, bt236.2.2)) else (none)) else (none))
set_option maxHeartbeats 8000000 in
set_option maxRecDepth 100000 in
theorem spec_l01Pick.calls (g : Nat) (s0_0 : List Int) (s0_1 : Int) (s0_2 : Int) (A1 : Option Addr) (c1 : Nat) (l1 : List Int) (r1 : Int) (r2 : Int) (r3 : Int) (w0 w : World) (hI : IsS215 w0 w g s0_0 s0_1 s0_2) (hB : Below w0.heap.size w0 w) (hr1 : Kd.C (Kd.int .i64) w A1 l1.length l1) (hc1 : l1.length ≤ c1) (hf1 : ∀ ad, A1 = some ad → 0 < l1.length → ad.block ≠ g) (h : spec_l01Pick.f s0_0 s0_1 s0_2 l1 = some (r1, r2, r3)) :
    Calls Try.prog 145 #[.pointer (some ⟨g, 0, none⟩), .slice A1 l1.length c1] w fun e w' => e = .returned (.int .i64 r1) ∧ IsS215 w0 w' g s0_0 r2 r3 ∧ Below w0.heap.size w0 w' ∧ KeepBut w w' g none := by
  have HR1 := Aside0.mk hr1
  have HC1 := Aside0.mk hc1
  clear hr1 hc1
  have HI0 := Aside0.mk hI
  have HK := Aside0.mk (KeepBut.refl w g none)
  have HL := Aside0.mk hB.size
  clear hI
  have HW0 := Aside0.mk hB.size
  have HB := Aside0.mk hB
  clear hB
  have H : ((spec_l01Next.f s0_0 s0_1 s0_2 (l1.length : Int)).bind fun bt236 => (if 0 ≤ bt236.1 then (if bt236.1 < (l1.length : Int) then (some (rd l1 bt236.1, bt236.2.1, bt236.2.2)) else (none)) else (none))) = some (r1, r2, r3) := h
  clear h
  replace H := Option.bind_eq_some_iff.mp H
  obtain ⟨⟨t236, t237, t238⟩, A30, H⟩ := H
  replace H : (if 0 ≤ t236 then (if t236 < (l1.length : Int) then (some (rd l1 t236, t237, t238)) else (none)) else (none)) = some (r1, r2, r3) := H
  have A3 := Aside0.mk A30
  clear A30
  by_cases c4 : 0 ≤ t236
  · rw [if_pos c4] at H
    have c4b0 : decide (0 ≤ t236) = true := decide_eq_true c4
    clear c4
    by_cases c5 : t236 < (l1.length : Int)
    · rw [if_pos c5] at H
      have c5b0 : decide (t236 < (l1.length : Int)) = true := decide_eq_true c5
      clear c5
      simp only [Option.some.injEq, Prod.mk.injEq] at H
      obtain ⟨rfl, rfl, rfl⟩ := H
      go_enter Try.func145, Try.ntmps145
      go_wp2_with (first | ((with_reducible refine gate_callee (f := 129) rfl ?_); refine goesL_ (some 9) rfl rfl Try.func129 (by kernel_rfl) rfl #[.pointer (some ⟨g, 0, none⟩), .int .i64 (l1.length : Int)] rfl ag_ ?_; (with_reducible refine (spec_l01Next.calls g s0_0 s0_1 s0_2 (l1.length : Int) t236 t237 t238 w0 _ ?side1 ?side2 A3.out).mono ?_); (case side1 => exact r2_ HI0.out); (case side2 => exact r4_ HB.out HI0.out); rintro e w6 ⟨rfl, hi, hb, hk⟩; refine ⟨_, rfl, ?_⟩; replace HK := Aside0.mk (KeepBut.trans (r3_ HK.out) hk (.inl rfl)); replace HB := Aside0.mk (hb); replace HI0 := Aside0.mk (hi); (try clear hb); (try clear hb2); (try clear hk); (try clear hi); have p239 : 0 ≤ (t236 : Int) := od_; have q239 : t236 < (l1.length : Int) := od_; obtain ⟨ad239, e239, hx239_0⟩ := Kd.at_int HR1.out t236 p239 q239; cases e239; replace hx239_0 := keep_cell HK.out hx239_0 (by first | (rw [add_block]; exact hf1 _ rfl (by omega)) | exact hf1 _ rfl (by omega) | exact hf1 ad239 rfl (by omega)); replace p239 := eq_true p239; replace q239 := eq_true q239))
      go_ret
      exact ⟨by first | rfl | (simp [errW_none, errW_some] <;> rfl) | (simp [*, errW_none, errW_some] <;> rfl), r2_ HI0.out, r4_ HB.out HI0.out, r3_ HK.out⟩
    · rw [if_neg c5] at H
      exact absurd H (by simp)
  · rw [if_neg c4] at H
    exact absurd H (by simp)
def spec_l15Good.f (s0_0 : List Int) (s0_1 : Int) (s0_2 : Int) : Option (Int × Int × Int × Int × Int × Int × Int) := (spec_l01Next.f s0_0 s0_1 s0_2 4).bind fun bt241 => ((spec_l01Next.f s0_0 bt241.2.1 bt241.2.2 2000).bind fun bt244 => ((spec_l01Next.f s0_0 bt244.2.1 bt244.2.2 2000).bind fun bt247 => ((spec_l01Next.f s0_0 bt247.2.1 bt247.2.2 400).bind fun bt250 => ((spec_l01Next.f s0_0 bt250.2.1 bt250.2.2 400).bind fun bt253 => (some (bt241.1, bt244.1, bt247.1, wrap64 (1 + bt250.1), wrap64 (1 + bt253.1), bt253.2.1, bt253.2.2))))))
set_option maxHeartbeats 8000000 in
set_option maxRecDepth 100000 in
theorem spec_l15Good.calls (g : Nat) (s0_0 : List Int) (s0_1 : Int) (s0_2 : Int) (r1 : Int) (r2 : Int) (r3 : Int) (r4 : Int) (r5 : Int) (r6 : Int) (r7 : Int) (w0 w : World) (hI : IsS215 w0 w g s0_0 s0_1 s0_2) (hB : Below w0.heap.size w0 w) (h : spec_l15Good.f s0_0 s0_1 s0_2 = some (r1, r2, r3, r4, r5, r6, r7)) :
  Calls Try.prog 196 #[.pointer (some ⟨g, 0, none⟩)] w fun e w' => e = .returned (.agg #[.int .i64 r1, .int .i64 r2, .int .i64 r3, .int .i64 r4, .int .i64 r5]) ∧ IsS215 w0 w' g s0_0 r6 r7 ∧ Below w0.heap.size w0 w' ∧ KeepBut w w' g none := by
 have hu83 := Try.underlying83
 have HI0 := Aside0.mk hI
 have HK := Aside0.mk (KeepBut.refl w g none)
 have HL := Aside0.mk hB.size
 clear hI
 have HW0 := Aside0.mk hB.size
 have HB := Aside0.mk hB
 clear hB
 have H : ((spec_l01Next.f s0_0 s0_1 s0_2 4).bind fun bt241 => ((spec_l01Next.f s0_0 bt241.2.1 bt241.2.2 2000).bind fun bt244 => ((spec_l01Next.f s0_0 bt244.2.1 bt244.2.2 2000).bind fun bt247 => ((spec_l01Next.f s0_0 bt247.2.1 bt247.2.2 400).bind fun bt250 => ((spec_l01Next.f s0_0 bt250.2.1 bt250.2.2 400).bind fun bt253 => (some (bt241.1, bt244.1, bt247.1, wrap64 (1 + bt250.1), wrap64 (1 + bt253.1), bt253.2.1, bt253.2.2))))))) = some (r1, r2, r3, r4, r5, r6, r7) := h
 clear h
 replace H := Option.bind_eq_some_iff.mp H
 obtain ⟨⟨t241, t242, t243⟩, A20, H⟩ := H
 replace H : ((spec_l01Next.f s0_0 t242 t243 2000).bind fun bt244 => ((spec_l01Next.f s0_0 bt244.2.1 bt244.2.2 2000).bind fun bt247 => ((spec_l01Next.f s0_0 bt247.2.1 bt247.2.2 400).bind fun bt250 => ((spec_l01Next.f s0_0 bt250.2.1 bt250.2.2 400).bind fun bt253 => (some (t241, bt244.1, bt247.1, wrap64 (1 + bt250.1), wrap64 (1 + bt253.1), bt253.2.1, bt253.2.2)))))) = some (r1, r2, r3, r4, r5, r6, r7) := H
 have A2 := Aside0.mk A20
 clear A20
 replace H := Option.bind_eq_some_iff.mp H
 obtain ⟨⟨t244, t245, t246⟩, A30, H⟩ := H
 replace H : ((spec_l01Next.f s0_0 t245 t246 2000).bind fun bt247 => ((spec_l01Next.f s0_0 bt247.2.1 bt247.2.2 400).bind fun bt250 => ((spec_l01Next.f s0_0 bt250.2.1 bt250.2.2 400).bind fun bt253 => (some (t241, t244, bt247.1, wrap64 (1 + bt250.1), wrap64 (1 + bt253.1), bt253.2.1, bt253.2.2))))) = some (r1, r2, r3, r4, r5, r6, r7) := H
 have A3 := Aside0.mk A30
 clear A30
 replace H := Option.bind_eq_some_iff.mp H
 obtain ⟨⟨t247, t248, t249⟩, A40, H⟩ := H
 replace H : ((spec_l01Next.f s0_0 t248 t249 400).bind fun bt250 => ((spec_l01Next.f s0_0 bt250.2.1 bt250.2.2 400).bind fun bt253 => (some (t241, t244, t247, wrap64 (1 + bt250.1), wrap64 (1 + bt253.1), bt253.2.1, bt253.2.2)))) = some (r1, r2, r3, r4, r5, r6, r7) := H
 have A4 := Aside0.mk A40
 clear A40
 replace H := Option.bind_eq_some_iff.mp H
 obtain ⟨⟨t250, t251, t252⟩, A50, H⟩ := H
 replace H : ((spec_l01Next.f s0_0 t251 t252 400).bind fun bt253 => (some (t241, t244, t247, wrap64 (1 + t250), wrap64 (1 + bt253.1), bt253.2.1, bt253.2.2))) = some (r1, r2, r3, r4, r5, r6, r7) := H
 have A5 := Aside0.mk A50
 clear A50
 replace H := Option.bind_eq_some_iff.mp H
 obtain ⟨⟨t253, t254, t255⟩, A60, H⟩ := H
 replace H : (some (t241, t244, t247, wrap64 (1 + t250), wrap64 (1 + t253), t254, t255)) = some (r1, r2, r3, r4, r5, r6, r7) := H
 have A6 := Aside0.mk A60
 clear A60
 simp only [Option.some.injEq, Prod.mk.injEq] at H
 obtain ⟨rfl, rfl, rfl, rfl, rfl, rfl, rfl⟩ := H
 go_enter Try.func196, Try.ntmps196
 go_wp2_with (first | ((with_reducible refine gate_dst (N := 2) rfl ?_); refine box_event ?hg (N := 2) ?hd (cs := #[.int .i64 0, .int .i64 0, .int .i64 0, .int .i64 0, .int .i64 0]) (t := 83) ?hr ?_; (case hd => rfl); (case hg => rfl); (case hr => first | (go_simp; done) | (go_simp; rfl)); intro gb240 hg w7 hbox hb; replace HB := Aside0.mk (below_step (r4_ HB.out HI0.out) hb); have BK240 := Aside0.mk (hbox); have GW240 := Aside0.mk ((by rw [hg]; exact (keep_size (w := w) (g := g) (row := none) (r3_ HK.out)) : w.heap.size ≤ gb240)); have GE240 := Aside0.mk ((Nat.le_trans HW0.out (by rw [hg]; exact (keep_size (w := w) (g := g) (row := none) (r3_ HK.out)) : w.heap.size ≤ gb240) : w0.heap.size ≤ gb240)); replace HK := Aside0.mk (KeepBut.trans (r3_ HK.out) (KeepBut.of_below hb g none) (.inl rfl)); have NB0_240 := Aside0.mk ((by rw [hg]; exact Nat.ne_of_lt (IsS215.lt (show IsS215 w0 _ g s0_0 s0_1 s0_2 from r2_ HI0.out)) : g ≠ gb240)); have NB240_0 := Aside0.mk ((by rw [hg]; exact Nat.ne_of_gt (IsS215.lt (show IsS215 w0 _ g s0_0 s0_1 s0_2 from r2_ HI0.out)) : gb240 ≠ g)); replace HI0 := Aside0.mk (IsS215.below (r2_ HI0.out) hb); clear hb hbox hg) | ((with_reducible refine gate_callee (f := 129) rfl ?_); refine goesL_ (some 4) rfl rfl Try.func129 (by kernel_rfl) rfl #[.pointer (some ⟨g, 0, none⟩), .int .i64 4] rfl ag_ ?_; (with_reducible refine (spec_l01Next.calls g s0_0 s0_1 s0_2 4 t241 t242 t243 w0 _ ?side1 ?side2 A2.out).mono ?_); (case side1 => exact r6_ HI0.out NB0_240.out); (case side2 => exact r10_ HB.out HI0.out GE240.out); rintro e w8 ⟨rfl, hi, hb, hk⟩; refine ⟨_, rfl, ?_⟩; replace BK240 := Aside0.mk (KeepBut.blk hk (g' := gb240) (o := .cells #[.int .i64 0, .int .i64 0, .int .i64 0, .int .i64 0, .int .i64 0] 83 (0, 0)) (r0_ BK240.out) NB240_0.out (by simp)); replace HK := Aside0.mk (KeepBut.trans (r7_ HK.out GW240.out) hk (.inl rfl)); replace HB := Aside0.mk (hb); replace HI0 := Aside0.mk (hi); (try clear hb); (try clear hb2); (try clear hk); (try clear hi)) | ((with_reducible refine gate_callee (f := 129) rfl ?_); refine goesL_ (some 6) rfl rfl Try.func129 (by kernel_rfl) rfl #[.pointer (some ⟨g, 0, none⟩), .int .i64 2000] rfl ag_ ?_; (with_reducible refine (spec_l01Next.calls g s0_0 t242 t243 2000 t244 t245 t246 w0 _ ?side1 ?side2 A3.out).mono ?_); (case side1 => exact r6_ HI0.out NB0_240.out); (case side2 => exact r10_ HB.out HI0.out GE240.out); rintro e w9 ⟨rfl, hi, hb, hk⟩; refine ⟨_, rfl, ?_⟩; replace BK240 := Aside0.mk (KeepBut.blk hk (g' := gb240) (o := .cells #[.int .i64 0, .int .i64 0, .int .i64 0, .int .i64 0, .int .i64 0] 83 (0, 0)) (r0_ BK240.out) NB240_0.out (by simp)); replace HK := Aside0.mk (KeepBut.trans (r7_ HK.out GW240.out) hk (.inl rfl)); replace HB := Aside0.mk (hb); replace HI0 := Aside0.mk (hi); (try clear hb); (try clear hb2); (try clear hk); (try clear hi)) | ((with_reducible refine gate_callee (f := 129) rfl ?_); refine goesL_ (some 8) rfl rfl Try.func129 (by kernel_rfl) rfl #[.pointer (some ⟨g, 0, none⟩), .int .i64 2000] rfl ag_ ?_; (with_reducible refine (spec_l01Next.calls g s0_0 t245 t246 2000 t247 t248 t249 w0 _ ?side1 ?side2 A4.out).mono ?_); (case side1 => exact r6_ HI0.out NB0_240.out); (case side2 => exact r10_ HB.out HI0.out GE240.out); rintro e w10 ⟨rfl, hi, hb, hk⟩; refine ⟨_, rfl, ?_⟩; replace BK240 := Aside0.mk (KeepBut.blk hk (g' := gb240) (o := .cells #[.int .i64 0, .int .i64 0, .int .i64 0, .int .i64 0, .int .i64 0] 83 (0, 0)) (r0_ BK240.out) NB240_0.out (by simp)); replace HK := Aside0.mk (KeepBut.trans (r7_ HK.out GW240.out) hk (.inl rfl)); replace HB := Aside0.mk (hb); replace HI0 := Aside0.mk (hi); (try clear hb); (try clear hb2); (try clear hk); (try clear hi)) | ((with_reducible refine gate_callee (f := 129) rfl ?_); refine goesL_ (some 10) rfl rfl Try.func129 (by kernel_rfl) rfl #[.pointer (some ⟨g, 0, none⟩), .int .i64 400] rfl ag_ ?_; (with_reducible refine (spec_l01Next.calls g s0_0 t248 t249 400 t250 t251 t252 w0 _ ?side1 ?side2 A5.out).mono ?_); (case side1 => exact r6_ HI0.out NB0_240.out); (case side2 => exact r10_ HB.out HI0.out GE240.out); rintro e w11 ⟨rfl, hi, hb, hk⟩; refine ⟨_, rfl, ?_⟩; replace BK240 := Aside0.mk (KeepBut.blk hk (g' := gb240) (o := .cells #[.int .i64 0, .int .i64 0, .int .i64 0, .int .i64 0, .int .i64 0] 83 (0, 0)) (r0_ BK240.out) NB240_0.out (by simp)); replace HK := Aside0.mk (KeepBut.trans (r7_ HK.out GW240.out) hk (.inl rfl)); replace HB := Aside0.mk (hb); replace HI0 := Aside0.mk (hi); (try clear hb); (try clear hb2); (try clear hk); (try clear hi)) | ((with_reducible refine gate_callee (f := 129) rfl ?_); refine goesL_ (some 13) rfl rfl Try.func129 (by kernel_rfl) rfl #[.pointer (some ⟨g, 0, none⟩), .int .i64 400] rfl ag_ ?_; (with_reducible refine (spec_l01Next.calls g s0_0 t251 t252 400 t253 t254 t255 w0 _ ?side1 ?side2 A6.out).mono ?_); (case side1 => exact r6_ HI0.out NB0_240.out); (case side2 => exact r10_ HB.out HI0.out GE240.out); rintro e w12 ⟨rfl, hi, hb, hk⟩; refine ⟨_, rfl, ?_⟩; replace BK240 := Aside0.mk (KeepBut.blk hk (g' := gb240) (o := .cells #[.int .i64 0, .int .i64 0, .int .i64 0, .int .i64 0, .int .i64 0] 83 (0, 0)) (r0_ BK240.out) NB240_0.out (by simp)); replace HK := Aside0.mk (KeepBut.trans (r7_ HK.out GW240.out) hk (.inl rfl)); replace HB := Aside0.mk (hb); replace HI0 := Aside0.mk (hi); (try clear hb); (try clear hb2); (try clear hk); (try clear hi); have hnb13 := NB240_0.out; have hnc13 := NB0_240.out; have hcz14_0 : w12.cell? ⟨gb240, 0, none⟩ = some (.int .i64 0) := (blk_cell BK240.out 0).trans rfl; have hcz14_1 : w12.cell? ⟨gb240, 1, none⟩ = some (.int .i64 0) := (blk_cell BK240.out 1).trans rfl; have hcz14_2 : w12.cell? ⟨gb240, 2, none⟩ = some (.int .i64 0) := (blk_cell BK240.out 2).trans rfl; have hcz14_3 : w12.cell? ⟨gb240, 3, none⟩ = some (.int .i64 0) := (blk_cell BK240.out 3).trans rfl; have hcz14_4 : w12.cell? ⟨gb240, 4, none⟩ = some (.int .i64 0) := (blk_cell BK240.out 4).trans rfl; have hfz14_0 := blk_frozen BK240.out 0; have hfz14_1 := blk_frozen BK240.out 1; have hfz14_2 := blk_frozen BK240.out 2; have hfz14_3 := blk_frozen BK240.out 3; have hfz14_4 := blk_frozen BK240.out 4))
 refine bodyPost_ret (results_cell_row rfl _ _ gb240 83 #[.int .i64 t241, .int .i64 t244, .int .i64 t247, .int .i64 (wrap64 (1 + t250)), .int .i64 (wrap64 (1 + t253))] (0, 0) _ rfl (by (with_reducible repeat (first | refine blk_drewN ?_ _ | refine blk_drew ?_ | refine blk_alloc ?_ _)); refine blk_put (cs := #[.int .i64 t241, .int .i64 t244, .int .i64 t247, .int .i64 (wrap64 (1 + t250)), .int .i64 0]) ?_ 4 _ rfl; (with_reducible repeat (first | refine blk_drewN ?_ _ | refine blk_drew ?_ | refine blk_alloc ?_ _)); refine blk_put (cs := #[.int .i64 t241, .int .i64 t244, .int .i64 t247, .int .i64 0, .int .i64 0]) ?_ 3 _ rfl; (with_reducible repeat (first | refine blk_drewN ?_ _ | refine blk_drew ?_ | refine blk_alloc ?_ _)); refine blk_put (cs := #[.int .i64 t241, .int .i64 t244, .int .i64 0, .int .i64 0, .int .i64 0]) ?_ 2 _ rfl; (with_reducible repeat (first | refine blk_drewN ?_ _ | refine blk_drew ?_ | refine blk_alloc ?_ _)); refine blk_put (cs := #[.int .i64 t241, .int .i64 0, .int .i64 0, .int .i64 0, .int .i64 0]) ?_ 1 _ rfl; (with_reducible repeat (first | refine blk_drewN ?_ _ | refine blk_drew ?_ | refine blk_alloc ?_ _)); refine blk_put (cs := #[.int .i64 0, .int .i64 0, .int .i64 0, .int .i64 0, .int .i64 0]) ?_ 0 _ rfl; (with_reducible repeat (first | refine blk_drewN ?_ _ | refine blk_drew ?_ | refine blk_alloc ?_ _)); exact BK240.out) Try.underlying83 rfl (by kernel_rfl)) rfl ?_
 exact ⟨by first | rfl | (simp [errW_none, errW_some] <;> rfl) | (simp [*, errW_none, errW_some] <;> rfl), r6_ HI0.out NB0_240.out, r10_ HB.out HI0.out GE240.out, r7_ HK.out GW240.out⟩
def spec_l15Draw.f (s0_0 : List Int) (s0_1 : Int) (s0_2 : Int) : Option (Int × Int × Int × Int × Int × Int × Int) := (spec_l15Good.f s0_0 s0_1 s0_2).bind fun bt257 => ((spec_l01Next.f s0_0 bt257.2.2.2.2.2.1 bt257.2.2.2.2.2.2 60).bind fun bt265 => (if bt265.1 = 0 then ((spec_l01Pick.f s0_0 bt265.2.1 bt265.2.2 (([(-1), 4] : List Int))).bind fun bt271 => (some (bt271.1, bt257.2.1, bt257.2.2.1, bt257.2.2.2.1, bt257.2.2.2.2.1, bt271.2.1, bt271.2.2))) else (if bt265.1 = 1 then ((spec_l01Pick.f s0_0 bt265.2.1 bt265.2.2 (([0, wrap64 (100000 - bt257.2.1), wrap64 ((wrap64 (100000 - bt257.2.1)) + 1)] : List Int))).bind fun bt277 => (some (bt257.1, bt257.2.1, bt257.2.2.1, bt277.1, bt257.2.2.2.2.1, bt277.2.1, bt277.2.2))) else (if bt265.1 = 2 then ((spec_l01Pick.f s0_0 bt265.2.1 bt265.2.2 (([(-1), 0, 100000] : List Int))).bind fun bt283 => (some (bt257.1, bt257.2.1, bt283.1, bt257.2.2.2.1, bt257.2.2.2.2.1, bt283.2.1, bt283.2.2))) else (some (bt257.1, bt257.2.1, bt257.2.2.1, bt257.2.2.2.1, bt257.2.2.2.2.1, bt265.2.1, bt265.2.2))))))
set_option maxHeartbeats 8000000 in
set_option maxRecDepth 100000 in
theorem spec_l15Draw.calls (g : Nat) (s0_0 : List Int) (s0_1 : Int) (s0_2 : Int) (r1 : Int) (r2 : Int) (r3 : Int) (r4 : Int) (r5 : Int) (r6 : Int) (r7 : Int) (w0 w : World) (hI : IsS215 w0 w g s0_0 s0_1 s0_2) (hB : Below w0.heap.size w0 w) (h : spec_l15Draw.f s0_0 s0_1 s0_2 = some (r1, r2, r3, r4, r5, r6, r7)) :
  Calls Try.prog 194 #[.pointer (some ⟨g, 0, none⟩)] w fun e w' => e = .returned (.agg #[.int .i64 r1, .int .i64 r2, .int .i64 r3, .int .i64 r4, .int .i64 r5]) ∧ IsS215 w0 w' g s0_0 r6 r7 ∧ Below w0.heap.size w0 w' ∧ KeepBut w w' g none := by
 have hu83 := Try.underlying83
 have HI0 := Aside0.mk hI
 have HK := Aside0.mk (KeepBut.refl w g none)
 have HL := Aside0.mk hB.size
 clear hI
 have HW0 := Aside0.mk hB.size
 have HB := Aside0.mk hB
 clear hB
 have H : ((spec_l15Good.f s0_0 s0_1 s0_2).bind fun bt257 => ((spec_l01Next.f s0_0 bt257.2.2.2.2.2.1 bt257.2.2.2.2.2.2 60).bind fun bt265 => (if bt265.1 = 0 then ((spec_l01Pick.f s0_0 bt265.2.1 bt265.2.2 (([(-1), 4] : List Int))).bind fun bt271 => (some (bt271.1, bt257.2.1, bt257.2.2.1, bt257.2.2.2.1, bt257.2.2.2.2.1, bt271.2.1, bt271.2.2))) else (if bt265.1 = 1 then ((spec_l01Pick.f s0_0 bt265.2.1 bt265.2.2 (([0, wrap64 (100000 - bt257.2.1), wrap64 ((wrap64 (100000 - bt257.2.1)) + 1)] : List Int))).bind fun bt277 => (some (bt257.1, bt257.2.1, bt257.2.2.1, bt277.1, bt257.2.2.2.2.1, bt277.2.1, bt277.2.2))) else (if bt265.1 = 2 then ((spec_l01Pick.f s0_0 bt265.2.1 bt265.2.2 (([(-1), 0, 100000] : List Int))).bind fun bt283 => (some (bt257.1, bt257.2.1, bt283.1, bt257.2.2.2.1, bt257.2.2.2.2.1, bt283.2.1, bt283.2.2))) else (some (bt257.1, bt257.2.1, bt257.2.2.1, bt257.2.2.2.1, bt257.2.2.2.2.1, bt265.2.1, bt265.2.2))))))) = some (r1, r2, r3, r4, r5, r6, r7) := h
 clear h
 replace H := Option.bind_eq_some_iff.mp H
 obtain ⟨⟨t257, t258, t259, t260, t261, t262, t263⟩, A20, H⟩ := H
 replace H : ((spec_l01Next.f s0_0 t262 t263 60).bind fun bt265 => (if bt265.1 = 0 then ((spec_l01Pick.f s0_0 bt265.2.1 bt265.2.2 (([(-1), 4] : List Int))).bind fun bt271 => (some (bt271.1, t258, t259, t260, t261, bt271.2.1, bt271.2.2))) else (if bt265.1 = 1 then ((spec_l01Pick.f s0_0 bt265.2.1 bt265.2.2 (([0, wrap64 (100000 - t258), wrap64 ((wrap64 (100000 - t258)) + 1)] : List Int))).bind fun bt277 => (some (t257, t258, t259, bt277.1, t261, bt277.2.1, bt277.2.2))) else (if bt265.1 = 2 then ((spec_l01Pick.f s0_0 bt265.2.1 bt265.2.2 (([(-1), 0, 100000] : List Int))).bind fun bt283 => (some (t257, t258, bt283.1, t260, t261, bt283.2.1, bt283.2.2))) else (some (t257, t258, t259, t260, t261, bt265.2.1, bt265.2.2)))))) = some (r1, r2, r3, r4, r5, r6, r7) := H
 have A2 := Aside0.mk A20
 clear A20
 replace H := Option.bind_eq_some_iff.mp H
 obtain ⟨⟨t265, t266, t267⟩, A30, H⟩ := H
 replace H : (if t265 = 0 then ((spec_l01Pick.f s0_0 t266 t267 (([(-1), 4] : List Int))).bind fun bt271 => (some (bt271.1, t258, t259, t260, t261, bt271.2.1, bt271.2.2))) else (if t265 = 1 then ((spec_l01Pick.f s0_0 t266 t267 (([0, wrap64 (100000 - t258), wrap64 ((wrap64 (100000 - t258)) + 1)] : List Int))).bind fun bt277 => (some (t257, t258, t259, bt277.1, t261, bt277.2.1, bt277.2.2))) else (if t265 = 2 then ((spec_l01Pick.f s0_0 t266 t267 (([(-1), 0, 100000] : List Int))).bind fun bt283 => (some (t257, t258, bt283.1, t260, t261, bt283.2.1, bt283.2.2))) else (some (t257, t258, t259, t260, t261, t266, t267))))) = some (r1, r2, r3, r4, r5, r6, r7) := H
 have A3 := Aside0.mk A30
 clear A30
 by_cases c4 : t265 = 0
 ·rw [if_pos c4] at H
  have c4b0 : (t265 == 0) = true := beq_iff_eq.mpr c4
  have c4b1 : (t265 != 0) = false := bne_eq_false_iff_eq.mpr c4
  clear c4
  obtain ⟨y268, hy268⟩ : ∃ y_ : List Int, y_ = (([(-1), 4] : List Int)) := ⟨_, rfl⟩
  replace H : ((spec_l01Pick.f s0_0 t266 t267 y268).bind fun bt271 => (some (bt271.1, t258, t259, t260, t261, bt271.2.1, bt271.2.2))) = some (r1, r2, r3, r4, r5, r6, r7) := by first | (rw [hy268]; with_reducible exact H) | (have H2_ := (Option.bind_some _ _).symm.trans H; rw [hy268]; with_reducible exact H2_) | (have H2_ := (Option.bind_some _ _).symm.trans H; with_reducible exact H2_) | with_reducible exact H | (rw [hy268]; exact H) | exact H
  have Ny268 := Aside0.mk hy268
  clear hy268
  replace H := Option.bind_eq_some_iff.mp H
  obtain ⟨⟨t271, t272, t273⟩, A50, H⟩ := H
  replace H : (some (t271, t258, t259, t260, t261, t272, t273)) = some (r1, r2, r3, r4, r5, r6, r7) := H
  have A5 := Aside0.mk A50
  clear A50
  simp only [Option.some.injEq, Prod.mk.injEq] at H
  obtain ⟨rfl, rfl, rfl, rfl, rfl, rfl, rfl⟩ := H
  go_enter Try.func194, Try.ntmps194
  go_wp2_with (first | ((with_reducible refine gate_dst (N := 2) rfl ?_); refine box_event ?hg (N := 2) ?hd (cs := #[.int .i64 0, .int .i64 0, .int .i64 0, .int .i64 0, .int .i64 0]) (t := 83) ?hr ?_; (case hd => rfl); (case hg => rfl); (case hr => first | (go_simp; done) | (go_simp; rfl)); intro gb256 hg w6 hbox hb; replace HB := Aside0.mk (below_step (r4_ HB.out HI0.out) hb); have BK256 := Aside0.mk (hbox); have GW256 := Aside0.mk ((by rw [hg]; exact (keep_size (w := w) (g := g) (row := none) (r3_ HK.out)) : w.heap.size ≤ gb256)); have GE256 := Aside0.mk ((Nat.le_trans HW0.out (by rw [hg]; exact (keep_size (w := w) (g := g) (row := none) (r3_ HK.out)) : w.heap.size ≤ gb256) : w0.heap.size ≤ gb256)); replace HK := Aside0.mk (KeepBut.trans (r3_ HK.out) (KeepBut.of_below hb g none) (.inl rfl)); have NB0_256 := Aside0.mk ((by rw [hg]; exact Nat.ne_of_lt (IsS215.lt (show IsS215 w0 _ g s0_0 s0_1 s0_2 from r2_ HI0.out)) : g ≠ gb256)); have NB256_0 := Aside0.mk ((by rw [hg]; exact Nat.ne_of_gt (IsS215.lt (show IsS215 w0 _ g s0_0 s0_1 s0_2 from r2_ HI0.out)) : gb256 ≠ g)); replace HI0 := Aside0.mk (IsS215.below (r2_ HI0.out) hb); clear hb hbox hg) | ((with_reducible refine gate_callee (f := 196) rfl ?_); refine goesL_ (some 5) rfl rfl Try.func196 (by kernel_rfl) rfl #[.pointer (some ⟨g, 0, none⟩)] rfl ag_ ?_; (with_reducible refine (spec_l15Good.calls g s0_0 s0_1 s0_2 t257 t258 t259 t260 t261 t262 t263 w0 _ ?side1 ?side2 A2.out).mono ?_); (case side1 => exact r6_ HI0.out NB0_256.out); (case side2 => exact r10_ HB.out HI0.out GE256.out); rintro e w7 ⟨rfl, hi, hb, hk⟩; refine ⟨_, rfl, ?_⟩; replace BK256 := Aside0.mk (KeepBut.blk hk (g' := gb256) (o := .cells #[.int .i64 0, .int .i64 0, .int .i64 0, .int .i64 0, .int .i64 0] 83 (0, 0)) (r0_ BK256.out) NB256_0.out (by simp)); replace HK := Aside0.mk (KeepBut.trans (r7_ HK.out GW256.out) hk (.inl rfl)); replace HB := Aside0.mk (hb); replace HI0 := Aside0.mk (hi); (try clear hb); (try clear hb2); (try clear hk); (try clear hi)) | ((with_reducible refine gate_dst (N := 3) rfl ?_); refine box_event ?hg (N := 3) ?hd (cs := #[.int .i64 0, .int .i64 0, .int .i64 0, .int .i64 0, .int .i64 0]) (t := 83) ?hr ?_; (case hd => rfl); (case hg => rfl); (case hr => first | (go_simp; done) | (go_simp; rfl)); intro gb264 hg w8 hbox hb; replace HB := Aside0.mk (below_step (r10_ HB.out HI0.out GE256.out) hb); have BK264 := Aside0.mk (hbox); have GW264 := Aside0.mk ((by rw [hg]; exact (keep_size (w := w) (g := g) (row := none) (r7_ HK.out GW256.out)) : w.heap.size ≤ gb264)); have GE264 := Aside0.mk ((Nat.le_trans HW0.out (by rw [hg]; exact (keep_size (w := w) (g := g) (row := none) (r7_ HK.out GW256.out)) : w.heap.size ≤ gb264) : w0.heap.size ≤ gb264)); replace HK := Aside0.mk (KeepBut.trans (r7_ HK.out GW256.out) (KeepBut.of_below hb g none) (.inl rfl)); have NB256_264 := Aside0.mk ((by rw [hg]; exact Nat.ne_of_lt (blk_lt (g := gb256) (o := .cells #[.int .i64 0, .int .i64 0, .int .i64 0, .int .i64 0, .int .i64 0] 83 (0, 0)) (r0_ BK256.out)) : gb256 ≠ gb264)); have NB264_256 := Aside0.mk ((by rw [hg]; exact Nat.ne_of_gt (blk_lt (g := gb256) (o := .cells #[.int .i64 0, .int .i64 0, .int .i64 0, .int .i64 0, .int .i64 0] 83 (0, 0)) (r0_ BK256.out)) : gb264 ≠ gb256)); replace BK256 := Aside0.mk (blk_below (g := gb256) (o := .cells #[.int .i64 0, .int .i64 0, .int .i64 0, .int .i64 0, .int .i64 0] 83 (0, 0)) (r0_ BK256.out) hb); have NB0_264 := Aside0.mk ((by rw [hg]; exact Nat.ne_of_lt (IsS215.lt (show IsS215 w0 _ g s0_0 t262 t263 from r6_ HI0.out NB0_256.out)) : g ≠ gb264)); have NB264_0 := Aside0.mk ((by rw [hg]; exact Nat.ne_of_gt (IsS215.lt (show IsS215 w0 _ g s0_0 t262 t263 from r6_ HI0.out NB0_256.out)) : gb264 ≠ g)); replace HI0 := Aside0.mk (IsS215.below (r6_ HI0.out NB0_256.out) hb); clear hb hbox hg; have hnb9 := NB264_256.out; have hnc9 := NB256_264.out; have hnb10 := NB264_0.out; have hnc10 := NB0_264.out; have hcz11_0 : w8.cell? ⟨gb264, 0, none⟩ = some (.int .i64 0) := (blk_cell BK264.out 0).trans rfl; have hcz11_1 : w8.cell? ⟨gb264, 1, none⟩ = some (.int .i64 0) := (blk_cell BK264.out 1).trans rfl; have hcz11_2 : w8.cell? ⟨gb264, 2, none⟩ = some (.int .i64 0) := (blk_cell BK264.out 2).trans rfl; have hcz11_3 : w8.cell? ⟨gb264, 3, none⟩ = some (.int .i64 0) := (blk_cell BK264.out 3).trans rfl; have hcz11_4 : w8.cell? ⟨gb264, 4, none⟩ = some (.int .i64 0) := (blk_cell BK264.out 4).trans rfl; have hfz11_0 := blk_frozen BK264.out 0; have hfz11_1 := blk_frozen BK264.out 1; have hfz11_2 := blk_frozen BK264.out 2; have hfz11_3 := blk_frozen BK264.out 3; have hfz11_4 := blk_frozen BK264.out 4) | ((with_reducible refine gate_callee (f := 129) rfl ?_); refine goesL_ (some 7) rfl rfl Try.func129 (by kernel_rfl) rfl #[.pointer (some ⟨g, 0, none⟩), .int .i64 60] rfl ag_ ?_; (with_reducible refine (spec_l01Next.calls g s0_0 t262 t263 60 t265 t266 t267 w0 _ ?side1 ?side2 A3.out).mono ?_); (case side1 => exact r8_ HI0.out NB0_256.out NB0_264.out); (case side2 => repeat (first | (with_reducible first | exact HB.out | apply below_alloc | apply pw_below_drewN | apply below_drew1 | refine below_set ?_ (IsS215.ge HI0.out) | refine below_set ?_ GE256.out | refine below_set ?_ GE264.out) | exact HB.out)); rintro e w12 ⟨rfl, hi, hb, hk⟩; refine ⟨_, rfl, ?_⟩; replace BK256 := Aside0.mk (KeepBut.blk hk (g' := gb256) (o := .cells #[.int .i64 0, .int .i64 0, .int .i64 0, .int .i64 0, .int .i64 0] 83 (0, 0)) (r11_ NB256_264.out BK256.out) NB256_0.out (by simp)); replace BK264 := Aside0.mk (KeepBut.blk hk (g' := gb264) (o := .cells #[.int .i64 t257, .int .i64 t258, .int .i64 t259, .int .i64 t260, .int .i64 t261] 83 (0, 0)) (by (with_reducible repeat (first | refine blk_drewN ?_ _ | refine blk_drew ?_ | refine blk_alloc ?_ _)); refine blk_put (cs := #[.int .i64 t257, .int .i64 t258, .int .i64 t259, .int .i64 t260, .int .i64 0]) ?_ 4 _ rfl; (with_reducible repeat (first | refine blk_drewN ?_ _ | refine blk_drew ?_ | refine blk_alloc ?_ _)); refine blk_put (cs := #[.int .i64 t257, .int .i64 t258, .int .i64 t259, .int .i64 0, .int .i64 0]) ?_ 3 _ rfl; (with_reducible repeat (first | refine blk_drewN ?_ _ | refine blk_drew ?_ | refine blk_alloc ?_ _)); refine blk_put (cs := #[.int .i64 t257, .int .i64 t258, .int .i64 0, .int .i64 0, .int .i64 0]) ?_ 2 _ rfl; (with_reducible repeat (first | refine blk_drewN ?_ _ | refine blk_drew ?_ | refine blk_alloc ?_ _)); refine blk_put (cs := #[.int .i64 t257, .int .i64 0, .int .i64 0, .int .i64 0, .int .i64 0]) ?_ 1 _ rfl; (with_reducible repeat (first | refine blk_drewN ?_ _ | refine blk_drew ?_ | refine blk_alloc ?_ _)); refine blk_put (cs := #[.int .i64 0, .int .i64 0, .int .i64 0, .int .i64 0, .int .i64 0]) ?_ 0 _ rfl; (with_reducible repeat (first | refine blk_drewN ?_ _ | refine blk_drew ?_ | refine blk_alloc ?_ _)); exact BK264.out) NB264_0.out (by simp)); replace HK := Aside0.mk (KeepBut.trans (r9_ HK.out GW256.out GW264.out) hk (.inl rfl)); replace HB := Aside0.mk (hb); replace HI0 := Aside0.mk (hi); (try clear hb); (try clear hb2); (try clear hk); (try clear hi)) | ((with_reducible refine gate_dst (N := 11) rfl ?_); refine Kd.R_lit (Kd.int .i64) _ 2 ?hg (N := 11) ?hd (xs := ([(-1), 4] : List Int)) (inner := [.int .i64 (-1), .int .i64 4]) (ok := fun _ => True) (okp := fun _ => True) ?hr ?hp (fun _ hk => hk) trivial (Below.refl _ _) (Nat.le_refl _) (by simp) ?_; (case hd => rfl); (case hg => rfl); (case hr => first | (go_simp; done) | (go_simp; rfl)); (case hp => exact (Reps.one (show Kd.M (Kd.int .i64) _ _ _ (-1) [.int .i64 (-1)] from rfl) (Reps.one (show Kd.M (Kd.int .i64) _ _ _ 4 [.int .i64 4] from rfl) (Reps.none _ _)))); intro v269 w13 ho14 hb hg_ hnew_; clear hg_ hnew_; (first | rw [← Ny268.out] at ho14 | (simp only [Int.reduceToNat] at ho14; rw [← Ny268.out] at ho14)); have HO270 := Aside0.mk (Kd.R_lower ho14 (keep_size (w := w) (g := g) (row := none) (r9_ HK.out GW256.out GW264.out))); replace BK256 := Aside0.mk (blk_below (g := gb256) (o := .cells #[.int .i64 0, .int .i64 0, .int .i64 0, .int .i64 0, .int .i64 0] 83 (0, 0)) (r0_ BK256.out) hb); replace BK264 := Aside0.mk (blk_below (g := gb264) (o := .cells #[.int .i64 t257, .int .i64 t258, .int .i64 t259, .int .i64 t260, .int .i64 t261] 83 (0, 0)) (r0_ BK264.out) hb); replace HK := Aside0.mk (KeepBut.trans (r9_ HK.out GW256.out GW264.out) (KeepBut.of_below hb g none) (.inl rfl)); replace HB := Aside0.mk (below_step (by repeat (first | (with_reducible first | exact HB.out | apply below_alloc | apply pw_below_drewN | apply below_drew1 | refine below_set ?_ (IsS215.ge HI0.out) | refine below_set ?_ GE256.out | refine below_set ?_ GE264.out) | exact HB.out)) hb); replace HI0 := Aside0.mk (IsS215.below (r8_ HI0.out NB0_256.out NB0_264.out) hb); clear hb ho14; obtain ⟨Ao15, co15, eo15⟩ := Kd.R_slice HO270.out; subst eo15) | ((with_reducible refine gate_callee (f := 145) rfl ?_); refine goesL_ (some 12) rfl rfl Try.func145 (by kernel_rfl) rfl #[.pointer (some ⟨g, 0, none⟩), .slice Ao15 y268.length co15] rfl ag_ ?_; (with_reducible refine (spec_l01Pick.calls g s0_0 t266 t267 _ _ y268 t271 t272 t273 w0 _ ?side1 ?side2 ?side3 ?side4 ?side5 A5.out).mono ?_); (case side1 => exact r8_ HI0.out NB0_256.out NB0_264.out); (case side2 => repeat (first | (with_reducible first | exact HB.out | apply below_alloc | apply pw_below_drewN | apply below_drew1 | refine below_set ?_ (IsS215.ge HI0.out) | refine below_set ?_ GE256.out | refine below_set ?_ GE264.out) | exact HB.out)); (case side3 => exact r13_ HO270.out); (case side4 => exact (Kd.R_reads' HO270.out).2.1); (case side5 => exact far_slice (IsS215.own_ne HI0.out HO270.out (by decide))); rintro e w16 ⟨rfl, hi, hb, hk⟩; refine ⟨_, rfl, ?_⟩; replace BK256 := Aside0.mk (KeepBut.blk hk (g' := gb256) (o := .cells #[.int .i64 0, .int .i64 0, .int .i64 0, .int .i64 0, .int .i64 0] 83 (0, 0)) (r0_ BK256.out) NB256_0.out (by simp)); replace BK264 := Aside0.mk (KeepBut.blk hk (g' := gb264) (o := .cells #[.int .i64 t257, .int .i64 t258, .int .i64 t259, .int .i64 t260, .int .i64 t261] 83 (0, 0)) (r0_ BK264.out) NB264_0.out (by simp)); replace HO270 := Aside0.mk (Kd.R_mono (Kd.R_keep (IsS215.apart (show IsS215 w0 _ g s0_0 t266 t267 from r8_ HI0.out NB0_256.out NB0_264.out) (rk_ HO270.out) (by decide)) hk (fun _ h => h.2)) (fun _ h => h.1)); replace HK := Aside0.mk (KeepBut.trans (r9_ HK.out GW256.out GW264.out) hk (.inl rfl)); replace HB := Aside0.mk (hb); replace HI0 := Aside0.mk (hi); (try clear hb); (try clear hb2); (try clear hk); (try clear hi); have hcz17_0 : w16.cell? ⟨gb264, 0, none⟩ = some (.int .i64 t257) := (blk_cell BK264.out 0).trans rfl; have hcz17_1 : w16.cell? ⟨gb264, 1, none⟩ = some (.int .i64 t258) := (blk_cell BK264.out 1).trans rfl; have hcz17_2 : w16.cell? ⟨gb264, 2, none⟩ = some (.int .i64 t259) := (blk_cell BK264.out 2).trans rfl; have hcz17_3 : w16.cell? ⟨gb264, 3, none⟩ = some (.int .i64 t260) := (blk_cell BK264.out 3).trans rfl; have hcz17_4 : w16.cell? ⟨gb264, 4, none⟩ = some (.int .i64 t261) := (blk_cell BK264.out 4).trans rfl; have hfz17_0 := blk_frozen BK264.out 0; have hfz17_1 := blk_frozen BK264.out 1; have hfz17_2 := blk_frozen BK264.out 2; have hfz17_3 := blk_frozen BK264.out 3; have hfz17_4 := blk_frozen BK264.out 4; have hnb18 := NB256_0.out; have hnc18 := NB0_256.out; have hcz19_0 : w16.cell? ⟨gb256, 0, none⟩ = some (.int .i64 0) := (blk_cell BK256.out 0).trans rfl; have hcz19_1 : w16.cell? ⟨gb256, 1, none⟩ = some (.int .i64 0) := (blk_cell BK256.out 1).trans rfl; have hcz19_2 : w16.cell? ⟨gb256, 2, none⟩ = some (.int .i64 0) := (blk_cell BK256.out 2).trans rfl; have hcz19_3 : w16.cell? ⟨gb256, 3, none⟩ = some (.int .i64 0) := (blk_cell BK256.out 3).trans rfl; have hcz19_4 : w16.cell? ⟨gb256, 4, none⟩ = some (.int .i64 0) := (blk_cell BK256.out 4).trans rfl; have hfz19_0 := blk_frozen BK256.out 0; have hfz19_1 := blk_frozen BK256.out 1; have hfz19_2 := blk_frozen BK256.out 2; have hfz19_3 := blk_frozen BK256.out 3; have hfz19_4 := blk_frozen BK256.out 4))
  refine bodyPost_ret (results_cell_row rfl _ _ gb256 83 #[.int .i64 t271, .int .i64 t258, .int .i64 t259, .int .i64 t260, .int .i64 t261] (0, 0) _ rfl (by (with_reducible repeat (first | refine blk_drewN ?_ _ | refine blk_drew ?_ | refine blk_alloc ?_ _)); refine blk_put (cs := #[.int .i64 t271, .int .i64 t258, .int .i64 t259, .int .i64 t260, .int .i64 0]) ?_ 4 _ rfl; (with_reducible repeat (first | refine blk_drewN ?_ _ | refine blk_drew ?_ | refine blk_alloc ?_ _)); refine blk_put (cs := #[.int .i64 t271, .int .i64 t258, .int .i64 t259, .int .i64 0, .int .i64 0]) ?_ 3 _ rfl; (with_reducible repeat (first | refine blk_drewN ?_ _ | refine blk_drew ?_ | refine blk_alloc ?_ _)); refine blk_put (cs := #[.int .i64 t271, .int .i64 t258, .int .i64 0, .int .i64 0, .int .i64 0]) ?_ 2 _ rfl; (with_reducible repeat (first | refine blk_drewN ?_ _ | refine blk_drew ?_ | refine blk_alloc ?_ _)); refine blk_put (cs := #[.int .i64 t271, .int .i64 0, .int .i64 0, .int .i64 0, .int .i64 0]) ?_ 1 _ rfl; (with_reducible repeat (first | refine blk_drewN ?_ _ | refine blk_drew ?_ | refine blk_alloc ?_ _)); refine blk_put (cs := #[.int .i64 0, .int .i64 0, .int .i64 0, .int .i64 0, .int .i64 0]) ?_ 0 _ rfl; (with_reducible repeat (first | refine blk_drewN ?_ _ | refine blk_drew ?_ | refine blk_alloc ?_ _)); refine blk_far ?_ NB256_264.out _; (with_reducible repeat (first | refine blk_drewN ?_ _ | refine blk_drew ?_ | refine blk_alloc ?_ _)); exact BK256.out) Try.underlying83 rfl (by kernel_rfl)) rfl ?_
  exact ⟨by first | rfl | (simp [errW_none, errW_some] <;> rfl) | (simp [*, errW_none, errW_some] <;> rfl), r8_ HI0.out NB0_256.out NB0_264.out, by repeat (first | (with_reducible first | exact HB.out | apply below_alloc | apply pw_below_drewN | apply below_drew1 | refine below_set ?_ (IsS215.ge HI0.out) | refine below_set ?_ GE256.out | refine below_set ?_ GE264.out) | exact HB.out), r9_ HK.out GW256.out GW264.out⟩
 ·rw [if_neg c4] at H
  have c4b0 : (t265 == 0) = false := beq_eq_false_iff_ne.mpr c4
  have c4b1 : (t265 != 0) = true := bne_iff_ne.mpr c4
  by_cases c20 : t265 = 1
  ·rw [if_pos c20] at H
   have c20b0 : (t265 == 1) = true := beq_iff_eq.mpr c20
   have c20b1 : (t265 != 1) = false := bne_eq_false_iff_eq.mpr c20
   clear c20
   obtain ⟨y274, hy274⟩ : ∃ y_ : List Int, y_ = (([0, wrap64 (100000 - t258), wrap64 ((wrap64 (100000 - t258)) + 1)] : List Int)) := ⟨_, rfl⟩
   replace H : ((spec_l01Pick.f s0_0 t266 t267 y274).bind fun bt277 => (some (t257, t258, t259, bt277.1, t261, bt277.2.1, bt277.2.2))) = some (r1, r2, r3, r4, r5, r6, r7) := by first | (rw [hy274]; with_reducible exact H) | (have H2_ := (Option.bind_some _ _).symm.trans H; rw [hy274]; with_reducible exact H2_) | (have H2_ := (Option.bind_some _ _).symm.trans H; with_reducible exact H2_) | with_reducible exact H | (rw [hy274]; exact H) | exact H
   have Ny274 := Aside0.mk hy274
   clear hy274
   replace H := Option.bind_eq_some_iff.mp H
   obtain ⟨⟨t277, t278, t279⟩, A210, H⟩ := H
   replace H : (some (t257, t258, t259, t277, t261, t278, t279)) = some (r1, r2, r3, r4, r5, r6, r7) := H
   have A21 := Aside0.mk A210
   clear A210
   simp only [Option.some.injEq, Prod.mk.injEq] at H
   obtain ⟨rfl, rfl, rfl, rfl, rfl, rfl, rfl⟩ := H
   go_enter Try.func194, Try.ntmps194
   go_wp2_with (first | ((with_reducible refine gate_dst (N := 2) rfl ?_); refine box_event ?hg (N := 2) ?hd (cs := #[.int .i64 0, .int .i64 0, .int .i64 0, .int .i64 0, .int .i64 0]) (t := 83) ?hr ?_; (case hd => rfl); (case hg => rfl); (case hr => first | (go_simp; done) | (go_simp; rfl)); intro gb256 hg w22 hbox hb; replace HB := Aside0.mk (below_step (r4_ HB.out HI0.out) hb); have BK256 := Aside0.mk (hbox); have GW256 := Aside0.mk ((by rw [hg]; exact (keep_size (w := w) (g := g) (row := none) (r3_ HK.out)) : w.heap.size ≤ gb256)); have GE256 := Aside0.mk ((Nat.le_trans HW0.out (by rw [hg]; exact (keep_size (w := w) (g := g) (row := none) (r3_ HK.out)) : w.heap.size ≤ gb256) : w0.heap.size ≤ gb256)); replace HK := Aside0.mk (KeepBut.trans (r3_ HK.out) (KeepBut.of_below hb g none) (.inl rfl)); have NB0_256 := Aside0.mk ((by rw [hg]; exact Nat.ne_of_lt (IsS215.lt (show IsS215 w0 _ g s0_0 s0_1 s0_2 from r2_ HI0.out)) : g ≠ gb256)); have NB256_0 := Aside0.mk ((by rw [hg]; exact Nat.ne_of_gt (IsS215.lt (show IsS215 w0 _ g s0_0 s0_1 s0_2 from r2_ HI0.out)) : gb256 ≠ g)); replace HI0 := Aside0.mk (IsS215.below (r2_ HI0.out) hb); clear hb hbox hg) | ((with_reducible refine gate_callee (f := 196) rfl ?_); refine goesL_ (some 5) rfl rfl Try.func196 (by kernel_rfl) rfl #[.pointer (some ⟨g, 0, none⟩)] rfl ag_ ?_; (with_reducible refine (spec_l15Good.calls g s0_0 s0_1 s0_2 t257 t258 t259 t260 t261 t262 t263 w0 _ ?side1 ?side2 A2.out).mono ?_); (case side1 => exact r6_ HI0.out NB0_256.out); (case side2 => exact r10_ HB.out HI0.out GE256.out); rintro e w23 ⟨rfl, hi, hb, hk⟩; refine ⟨_, rfl, ?_⟩; replace BK256 := Aside0.mk (KeepBut.blk hk (g' := gb256) (o := .cells #[.int .i64 0, .int .i64 0, .int .i64 0, .int .i64 0, .int .i64 0] 83 (0, 0)) (r0_ BK256.out) NB256_0.out (by simp)); replace HK := Aside0.mk (KeepBut.trans (r7_ HK.out GW256.out) hk (.inl rfl)); replace HB := Aside0.mk (hb); replace HI0 := Aside0.mk (hi); (try clear hb); (try clear hb2); (try clear hk); (try clear hi)) | ((with_reducible refine gate_dst (N := 3) rfl ?_); refine box_event ?hg (N := 3) ?hd (cs := #[.int .i64 0, .int .i64 0, .int .i64 0, .int .i64 0, .int .i64 0]) (t := 83) ?hr ?_; (case hd => rfl); (case hg => rfl); (case hr => first | (go_simp; done) | (go_simp; rfl)); intro gb264 hg w24 hbox hb; replace HB := Aside0.mk (below_step (r10_ HB.out HI0.out GE256.out) hb); have BK264 := Aside0.mk (hbox); have GW264 := Aside0.mk ((by rw [hg]; exact (keep_size (w := w) (g := g) (row := none) (r7_ HK.out GW256.out)) : w.heap.size ≤ gb264)); have GE264 := Aside0.mk ((Nat.le_trans HW0.out (by rw [hg]; exact (keep_size (w := w) (g := g) (row := none) (r7_ HK.out GW256.out)) : w.heap.size ≤ gb264) : w0.heap.size ≤ gb264)); replace HK := Aside0.mk (KeepBut.trans (r7_ HK.out GW256.out) (KeepBut.of_below hb g none) (.inl rfl)); have NB256_264 := Aside0.mk ((by rw [hg]; exact Nat.ne_of_lt (blk_lt (g := gb256) (o := .cells #[.int .i64 0, .int .i64 0, .int .i64 0, .int .i64 0, .int .i64 0] 83 (0, 0)) (r0_ BK256.out)) : gb256 ≠ gb264)); have NB264_256 := Aside0.mk ((by rw [hg]; exact Nat.ne_of_gt (blk_lt (g := gb256) (o := .cells #[.int .i64 0, .int .i64 0, .int .i64 0, .int .i64 0, .int .i64 0] 83 (0, 0)) (r0_ BK256.out)) : gb264 ≠ gb256)); replace BK256 := Aside0.mk (blk_below (g := gb256) (o := .cells #[.int .i64 0, .int .i64 0, .int .i64 0, .int .i64 0, .int .i64 0] 83 (0, 0)) (r0_ BK256.out) hb); have NB0_264 := Aside0.mk ((by rw [hg]; exact Nat.ne_of_lt (IsS215.lt (show IsS215 w0 _ g s0_0 t262 t263 from r6_ HI0.out NB0_256.out)) : g ≠ gb264)); have NB264_0 := Aside0.mk ((by rw [hg]; exact Nat.ne_of_gt (IsS215.lt (show IsS215 w0 _ g s0_0 t262 t263 from r6_ HI0.out NB0_256.out)) : gb264 ≠ g)); replace HI0 := Aside0.mk (IsS215.below (r6_ HI0.out NB0_256.out) hb); clear hb hbox hg; have hnb25 := NB264_256.out; have hnc25 := NB256_264.out; have hnb26 := NB264_0.out; have hnc26 := NB0_264.out; have hcz27_0 : w24.cell? ⟨gb264, 0, none⟩ = some (.int .i64 0) := (blk_cell BK264.out 0).trans rfl; have hcz27_1 : w24.cell? ⟨gb264, 1, none⟩ = some (.int .i64 0) := (blk_cell BK264.out 1).trans rfl; have hcz27_2 : w24.cell? ⟨gb264, 2, none⟩ = some (.int .i64 0) := (blk_cell BK264.out 2).trans rfl; have hcz27_3 : w24.cell? ⟨gb264, 3, none⟩ = some (.int .i64 0) := (blk_cell BK264.out 3).trans rfl; have hcz27_4 : w24.cell? ⟨gb264, 4, none⟩ = some (.int .i64 0) := (blk_cell BK264.out 4).trans rfl; have hfz27_0 := blk_frozen BK264.out 0; have hfz27_1 := blk_frozen BK264.out 1; have hfz27_2 := blk_frozen BK264.out 2; have hfz27_3 := blk_frozen BK264.out 3; have hfz27_4 := blk_frozen BK264.out 4) | ((with_reducible refine gate_callee (f := 129) rfl ?_); refine goesL_ (some 7) rfl rfl Try.func129 (by kernel_rfl) rfl #[.pointer (some ⟨g, 0, none⟩), .int .i64 60] rfl ag_ ?_; (with_reducible refine (spec_l01Next.calls g s0_0 t262 t263 60 t265 t266 t267 w0 _ ?side1 ?side2 A3.out).mono ?_); (case side1 => exact r8_ HI0.out NB0_256.out NB0_264.out); (case side2 => repeat (first | (with_reducible first | exact HB.out | apply below_alloc | apply pw_below_drewN | apply below_drew1 | refine below_set ?_ (IsS215.ge HI0.out) | refine below_set ?_ GE256.out | refine below_set ?_ GE264.out) | exact HB.out)); rintro e w28 ⟨rfl, hi, hb, hk⟩; refine ⟨_, rfl, ?_⟩; replace BK256 := Aside0.mk (KeepBut.blk hk (g' := gb256) (o := .cells #[.int .i64 0, .int .i64 0, .int .i64 0, .int .i64 0, .int .i64 0] 83 (0, 0)) (r11_ NB256_264.out BK256.out) NB256_0.out (by simp)); replace BK264 := Aside0.mk (KeepBut.blk hk (g' := gb264) (o := .cells #[.int .i64 t257, .int .i64 t258, .int .i64 t259, .int .i64 t260, .int .i64 t261] 83 (0, 0)) (by (with_reducible repeat (first | refine blk_drewN ?_ _ | refine blk_drew ?_ | refine blk_alloc ?_ _)); refine blk_put (cs := #[.int .i64 t257, .int .i64 t258, .int .i64 t259, .int .i64 t260, .int .i64 0]) ?_ 4 _ rfl; (with_reducible repeat (first | refine blk_drewN ?_ _ | refine blk_drew ?_ | refine blk_alloc ?_ _)); refine blk_put (cs := #[.int .i64 t257, .int .i64 t258, .int .i64 t259, .int .i64 0, .int .i64 0]) ?_ 3 _ rfl; (with_reducible repeat (first | refine blk_drewN ?_ _ | refine blk_drew ?_ | refine blk_alloc ?_ _)); refine blk_put (cs := #[.int .i64 t257, .int .i64 t258, .int .i64 0, .int .i64 0, .int .i64 0]) ?_ 2 _ rfl; (with_reducible repeat (first | refine blk_drewN ?_ _ | refine blk_drew ?_ | refine blk_alloc ?_ _)); refine blk_put (cs := #[.int .i64 t257, .int .i64 0, .int .i64 0, .int .i64 0, .int .i64 0]) ?_ 1 _ rfl; (with_reducible repeat (first | refine blk_drewN ?_ _ | refine blk_drew ?_ | refine blk_alloc ?_ _)); refine blk_put (cs := #[.int .i64 0, .int .i64 0, .int .i64 0, .int .i64 0, .int .i64 0]) ?_ 0 _ rfl; (with_reducible repeat (first | refine blk_drewN ?_ _ | refine blk_drew ?_ | refine blk_alloc ?_ _)); exact BK264.out) NB264_0.out (by simp)); replace HK := Aside0.mk (KeepBut.trans (r9_ HK.out GW256.out GW264.out) hk (.inl rfl)); replace HB := Aside0.mk (hb); replace HI0 := Aside0.mk (hi); (try clear hb); (try clear hb2); (try clear hk); (try clear hi); have hcz29_0 : w28.cell? ⟨gb264, 0, none⟩ = some (.int .i64 t257) := (blk_cell BK264.out 0).trans rfl; have hcz29_1 : w28.cell? ⟨gb264, 1, none⟩ = some (.int .i64 t258) := (blk_cell BK264.out 1).trans rfl; have hcz29_2 : w28.cell? ⟨gb264, 2, none⟩ = some (.int .i64 t259) := (blk_cell BK264.out 2).trans rfl; have hcz29_3 : w28.cell? ⟨gb264, 3, none⟩ = some (.int .i64 t260) := (blk_cell BK264.out 3).trans rfl; have hcz29_4 : w28.cell? ⟨gb264, 4, none⟩ = some (.int .i64 t261) := (blk_cell BK264.out 4).trans rfl; have hfz29_0 := blk_frozen BK264.out 0; have hfz29_1 := blk_frozen BK264.out 1; have hfz29_2 := blk_frozen BK264.out 2; have hfz29_3 := blk_frozen BK264.out 3; have hfz29_4 := blk_frozen BK264.out 4) | ((with_reducible refine gate_dst (N := 24) rfl ?_); refine Kd.R_lit (Kd.int .i64) _ 2 ?hg (N := 24) ?hd (xs := ([0, wrap64 (100000 - t258), wrap64 ((wrap64 (100000 - t258)) + 1)] : List Int)) (inner := [.int .i64 0, .int .i64 (wrap64 (100000 - t258)), .int .i64 (wrap64 ((wrap64 (100000 - t258)) + 1))]) (ok := fun _ => True) (okp := fun _ => True) ?hr ?hp (fun _ hk => hk) trivial (Below.refl _ _) (Nat.le_refl _) (by simp) ?_; (case hd => rfl); (case hg => rfl); (case hr => first | (go_simp; done) | (go_simp; rfl)); (case hp => exact (Reps.one (show Kd.M (Kd.int .i64) _ _ _ 0 [.int .i64 0] from rfl) (Reps.one (show Kd.M (Kd.int .i64) _ _ _ (wrap64 (100000 - t258)) [.int .i64 (wrap64 (100000 - t258))] from rfl) (Reps.one (show Kd.M (Kd.int .i64) _ _ _ (wrap64 ((wrap64 (100000 - t258)) + 1)) [.int .i64 (wrap64 ((wrap64 (100000 - t258)) + 1))] from rfl) (Reps.none _ _))))); intro v275 w30 ho31 hb hg_ hnew_; clear hg_ hnew_; (first | rw [← Ny274.out] at ho31 | (simp only [Int.reduceToNat] at ho31; rw [← Ny274.out] at ho31)); have HO276 := Aside0.mk (Kd.R_lower ho31 (keep_size (w := w) (g := g) (row := none) (r9_ HK.out GW256.out GW264.out))); replace BK256 := Aside0.mk (blk_below (g := gb256) (o := .cells #[.int .i64 0, .int .i64 0, .int .i64 0, .int .i64 0, .int .i64 0] 83 (0, 0)) (r0_ BK256.out) hb); replace BK264 := Aside0.mk (blk_below (g := gb264) (o := .cells #[.int .i64 t257, .int .i64 t258, .int .i64 t259, .int .i64 t260, .int .i64 t261] 83 (0, 0)) (r0_ BK264.out) hb); replace HK := Aside0.mk (KeepBut.trans (r9_ HK.out GW256.out GW264.out) (KeepBut.of_below hb g none) (.inl rfl)); replace HB := Aside0.mk (below_step (by repeat (first | (with_reducible first | exact HB.out | apply below_alloc | apply pw_below_drewN | apply below_drew1 | refine below_set ?_ (IsS215.ge HI0.out) | refine below_set ?_ GE256.out | refine below_set ?_ GE264.out) | exact HB.out)) hb); replace HI0 := Aside0.mk (IsS215.below (r8_ HI0.out NB0_256.out NB0_264.out) hb); clear hb ho31; obtain ⟨Ao32, co32, eo32⟩ := Kd.R_slice HO276.out; subst eo32) | ((with_reducible refine gate_callee (f := 145) rfl ?_); refine goesL_ (some 25) rfl rfl Try.func145 (by kernel_rfl) rfl #[.pointer (some ⟨g, 0, none⟩), .slice Ao32 y274.length co32] rfl ag_ ?_; (with_reducible refine (spec_l01Pick.calls g s0_0 t266 t267 _ _ y274 t277 t278 t279 w0 _ ?side1 ?side2 ?side3 ?side4 ?side5 A21.out).mono ?_); (case side1 => exact r8_ HI0.out NB0_256.out NB0_264.out); (case side2 => repeat (first | (with_reducible first | exact HB.out | apply below_alloc | apply pw_below_drewN | apply below_drew1 | refine below_set ?_ (IsS215.ge HI0.out) | refine below_set ?_ GE256.out | refine below_set ?_ GE264.out) | exact HB.out)); (case side3 => exact r13_ HO276.out); (case side4 => exact (Kd.R_reads' HO276.out).2.1); (case side5 => exact far_slice (IsS215.own_ne HI0.out HO276.out (by decide))); rintro e w33 ⟨rfl, hi, hb, hk⟩; refine ⟨_, rfl, ?_⟩; replace BK256 := Aside0.mk (KeepBut.blk hk (g' := gb256) (o := .cells #[.int .i64 0, .int .i64 0, .int .i64 0, .int .i64 0, .int .i64 0] 83 (0, 0)) (r0_ BK256.out) NB256_0.out (by simp)); replace BK264 := Aside0.mk (KeepBut.blk hk (g' := gb264) (o := .cells #[.int .i64 t257, .int .i64 t258, .int .i64 t259, .int .i64 t260, .int .i64 t261] 83 (0, 0)) (r0_ BK264.out) NB264_0.out (by simp)); replace HO276 := Aside0.mk (Kd.R_mono (Kd.R_keep (IsS215.apart (show IsS215 w0 _ g s0_0 t266 t267 from r8_ HI0.out NB0_256.out NB0_264.out) (rk_ HO276.out) (by decide)) hk (fun _ h => h.2)) (fun _ h => h.1)); replace HK := Aside0.mk (KeepBut.trans (r9_ HK.out GW256.out GW264.out) hk (.inl rfl)); replace HB := Aside0.mk (hb); replace HI0 := Aside0.mk (hi); (try clear hb); (try clear hb2); (try clear hk); (try clear hi); have hcz34_0 : w33.cell? ⟨gb264, 0, none⟩ = some (.int .i64 t257) := (blk_cell BK264.out 0).trans rfl; have hcz34_1 : w33.cell? ⟨gb264, 1, none⟩ = some (.int .i64 t258) := (blk_cell BK264.out 1).trans rfl; have hcz34_2 : w33.cell? ⟨gb264, 2, none⟩ = some (.int .i64 t259) := (blk_cell BK264.out 2).trans rfl; have hcz34_3 : w33.cell? ⟨gb264, 3, none⟩ = some (.int .i64 t260) := (blk_cell BK264.out 3).trans rfl; have hcz34_4 : w33.cell? ⟨gb264, 4, none⟩ = some (.int .i64 t261) := (blk_cell BK264.out 4).trans rfl; have hfz34_0 := blk_frozen BK264.out 0; have hfz34_1 := blk_frozen BK264.out 1; have hfz34_2 := blk_frozen BK264.out 2; have hfz34_3 := blk_frozen BK264.out 3; have hfz34_4 := blk_frozen BK264.out 4; have hnb35 := NB256_0.out; have hnc35 := NB0_256.out; have hcz36_0 : w33.cell? ⟨gb256, 0, none⟩ = some (.int .i64 0) := (blk_cell BK256.out 0).trans rfl; have hcz36_1 : w33.cell? ⟨gb256, 1, none⟩ = some (.int .i64 0) := (blk_cell BK256.out 1).trans rfl; have hcz36_2 : w33.cell? ⟨gb256, 2, none⟩ = some (.int .i64 0) := (blk_cell BK256.out 2).trans rfl; have hcz36_3 : w33.cell? ⟨gb256, 3, none⟩ = some (.int .i64 0) := (blk_cell BK256.out 3).trans rfl; have hcz36_4 : w33.cell? ⟨gb256, 4, none⟩ = some (.int .i64 0) := (blk_cell BK256.out 4).trans rfl; have hfz36_0 := blk_frozen BK256.out 0; have hfz36_1 := blk_frozen BK256.out 1; have hfz36_2 := blk_frozen BK256.out 2; have hfz36_3 := blk_frozen BK256.out 3; have hfz36_4 := blk_frozen BK256.out 4))
   refine bodyPost_ret (results_cell_row rfl _ _ gb256 83 #[.int .i64 t257, .int .i64 t258, .int .i64 t259, .int .i64 t277, .int .i64 t261] (0, 0) _ rfl (by (with_reducible repeat (first | refine blk_drewN ?_ _ | refine blk_drew ?_ | refine blk_alloc ?_ _)); refine blk_put (cs := #[.int .i64 t257, .int .i64 t258, .int .i64 t259, .int .i64 t277, .int .i64 0]) ?_ 4 _ rfl; (with_reducible repeat (first | refine blk_drewN ?_ _ | refine blk_drew ?_ | refine blk_alloc ?_ _)); refine blk_put (cs := #[.int .i64 t257, .int .i64 t258, .int .i64 t259, .int .i64 0, .int .i64 0]) ?_ 3 _ rfl; (with_reducible repeat (first | refine blk_drewN ?_ _ | refine blk_drew ?_ | refine blk_alloc ?_ _)); refine blk_put (cs := #[.int .i64 t257, .int .i64 t258, .int .i64 0, .int .i64 0, .int .i64 0]) ?_ 2 _ rfl; (with_reducible repeat (first | refine blk_drewN ?_ _ | refine blk_drew ?_ | refine blk_alloc ?_ _)); refine blk_put (cs := #[.int .i64 t257, .int .i64 0, .int .i64 0, .int .i64 0, .int .i64 0]) ?_ 1 _ rfl; (with_reducible repeat (first | refine blk_drewN ?_ _ | refine blk_drew ?_ | refine blk_alloc ?_ _)); refine blk_put (cs := #[.int .i64 0, .int .i64 0, .int .i64 0, .int .i64 0, .int .i64 0]) ?_ 0 _ rfl; (with_reducible repeat (first | refine blk_drewN ?_ _ | refine blk_drew ?_ | refine blk_alloc ?_ _)); refine blk_far ?_ NB256_264.out _; (with_reducible repeat (first | refine blk_drewN ?_ _ | refine blk_drew ?_ | refine blk_alloc ?_ _)); exact BK256.out) Try.underlying83 rfl (by kernel_rfl)) rfl ?_
   exact ⟨by first | rfl | (simp [errW_none, errW_some] <;> rfl) | (simp [*, errW_none, errW_some] <;> rfl), r8_ HI0.out NB0_256.out NB0_264.out, by repeat (first | (with_reducible first | exact HB.out | apply below_alloc | apply pw_below_drewN | apply below_drew1 | refine below_set ?_ (IsS215.ge HI0.out) | refine below_set ?_ GE256.out | refine below_set ?_ GE264.out) | exact HB.out), r9_ HK.out GW256.out GW264.out⟩
  ·rw [if_neg c20] at H
   have c20b0 : (t265 == 1) = false := beq_eq_false_iff_ne.mpr c20
   have c20b1 : (t265 != 1) = true := bne_iff_ne.mpr c20
   by_cases c37 : t265 = 2
   ·rw [if_pos c37] at H
    have c37b0 : (t265 == 2) = true := beq_iff_eq.mpr c37
    have c37b1 : (t265 != 2) = false := bne_eq_false_iff_eq.mpr c37
    clear c37
    obtain ⟨y280, hy280⟩ : ∃ y_ : List Int, y_ = (([(-1), 0, 100000] : List Int)) := ⟨_, rfl⟩
    replace H : ((spec_l01Pick.f s0_0 t266 t267 y280).bind fun bt283 => (some (t257, t258, bt283.1, t260, t261, bt283.2.1, bt283.2.2))) = some (r1, r2, r3, r4, r5, r6, r7) := by first | (rw [hy280]; with_reducible exact H) | (have H2_ := (Option.bind_some _ _).symm.trans H; rw [hy280]; with_reducible exact H2_) | (have H2_ := (Option.bind_some _ _).symm.trans H; with_reducible exact H2_) | with_reducible exact H | (rw [hy280]; exact H) | exact H
    have Ny280 := Aside0.mk hy280
    clear hy280
    replace H := Option.bind_eq_some_iff.mp H
    obtain ⟨⟨t283, t284, t285⟩, A380, H⟩ := H
    replace H : (some (t257, t258, t283, t260, t261, t284, t285)) = some (r1, r2, r3, r4, r5, r6, r7) := H
    have A38 := Aside0.mk A380
    clear A380
    simp only [Option.some.injEq, Prod.mk.injEq] at H
    obtain ⟨rfl, rfl, rfl, rfl, rfl, rfl, rfl⟩ := H
    go_enter Try.func194, Try.ntmps194
    go_wp2_with (first | ((with_reducible refine gate_dst (N := 2) rfl ?_); refine box_event ?hg (N := 2) ?hd (cs := #[.int .i64 0, .int .i64 0, .int .i64 0, .int .i64 0, .int .i64 0]) (t := 83) ?hr ?_; (case hd => rfl); (case hg => rfl); (case hr => first | (go_simp; done) | (go_simp; rfl)); intro gb256 hg w39 hbox hb; replace HB := Aside0.mk (below_step (r4_ HB.out HI0.out) hb); have BK256 := Aside0.mk (hbox); have GW256 := Aside0.mk ((by rw [hg]; exact (keep_size (w := w) (g := g) (row := none) (r3_ HK.out)) : w.heap.size ≤ gb256)); have GE256 := Aside0.mk ((Nat.le_trans HW0.out (by rw [hg]; exact (keep_size (w := w) (g := g) (row := none) (r3_ HK.out)) : w.heap.size ≤ gb256) : w0.heap.size ≤ gb256)); replace HK := Aside0.mk (KeepBut.trans (r3_ HK.out) (KeepBut.of_below hb g none) (.inl rfl)); have NB0_256 := Aside0.mk ((by rw [hg]; exact Nat.ne_of_lt (IsS215.lt (show IsS215 w0 _ g s0_0 s0_1 s0_2 from r2_ HI0.out)) : g ≠ gb256)); have NB256_0 := Aside0.mk ((by rw [hg]; exact Nat.ne_of_gt (IsS215.lt (show IsS215 w0 _ g s0_0 s0_1 s0_2 from r2_ HI0.out)) : gb256 ≠ g)); replace HI0 := Aside0.mk (IsS215.below (r2_ HI0.out) hb); clear hb hbox hg) | ((with_reducible refine gate_callee (f := 196) rfl ?_); refine goesL_ (some 5) rfl rfl Try.func196 (by kernel_rfl) rfl #[.pointer (some ⟨g, 0, none⟩)] rfl ag_ ?_; (with_reducible refine (spec_l15Good.calls g s0_0 s0_1 s0_2 t257 t258 t259 t260 t261 t262 t263 w0 _ ?side1 ?side2 A2.out).mono ?_); (case side1 => exact r6_ HI0.out NB0_256.out); (case side2 => exact r10_ HB.out HI0.out GE256.out); rintro e w40 ⟨rfl, hi, hb, hk⟩; refine ⟨_, rfl, ?_⟩; replace BK256 := Aside0.mk (KeepBut.blk hk (g' := gb256) (o := .cells #[.int .i64 0, .int .i64 0, .int .i64 0, .int .i64 0, .int .i64 0] 83 (0, 0)) (r0_ BK256.out) NB256_0.out (by simp)); replace HK := Aside0.mk (KeepBut.trans (r7_ HK.out GW256.out) hk (.inl rfl)); replace HB := Aside0.mk (hb); replace HI0 := Aside0.mk (hi); (try clear hb); (try clear hb2); (try clear hk); (try clear hi)) | ((with_reducible refine gate_dst (N := 3) rfl ?_); refine box_event ?hg (N := 3) ?hd (cs := #[.int .i64 0, .int .i64 0, .int .i64 0, .int .i64 0, .int .i64 0]) (t := 83) ?hr ?_; (case hd => rfl); (case hg => rfl); (case hr => first | (go_simp; done) | (go_simp; rfl)); intro gb264 hg w41 hbox hb; replace HB := Aside0.mk (below_step (r10_ HB.out HI0.out GE256.out) hb); have BK264 := Aside0.mk (hbox); have GW264 := Aside0.mk ((by rw [hg]; exact (keep_size (w := w) (g := g) (row := none) (r7_ HK.out GW256.out)) : w.heap.size ≤ gb264)); have GE264 := Aside0.mk ((Nat.le_trans HW0.out (by rw [hg]; exact (keep_size (w := w) (g := g) (row := none) (r7_ HK.out GW256.out)) : w.heap.size ≤ gb264) : w0.heap.size ≤ gb264)); replace HK := Aside0.mk (KeepBut.trans (r7_ HK.out GW256.out) (KeepBut.of_below hb g none) (.inl rfl)); have NB256_264 := Aside0.mk ((by rw [hg]; exact Nat.ne_of_lt (blk_lt (g := gb256) (o := .cells #[.int .i64 0, .int .i64 0, .int .i64 0, .int .i64 0, .int .i64 0] 83 (0, 0)) (r0_ BK256.out)) : gb256 ≠ gb264)); have NB264_256 := Aside0.mk ((by rw [hg]; exact Nat.ne_of_gt (blk_lt (g := gb256) (o := .cells #[.int .i64 0, .int .i64 0, .int .i64 0, .int .i64 0, .int .i64 0] 83 (0, 0)) (r0_ BK256.out)) : gb264 ≠ gb256)); replace BK256 := Aside0.mk (blk_below (g := gb256) (o := .cells #[.int .i64 0, .int .i64 0, .int .i64 0, .int .i64 0, .int .i64 0] 83 (0, 0)) (r0_ BK256.out) hb); have NB0_264 := Aside0.mk ((by rw [hg]; exact Nat.ne_of_lt (IsS215.lt (show IsS215 w0 _ g s0_0 t262 t263 from r6_ HI0.out NB0_256.out)) : g ≠ gb264)); have NB264_0 := Aside0.mk ((by rw [hg]; exact Nat.ne_of_gt (IsS215.lt (show IsS215 w0 _ g s0_0 t262 t263 from r6_ HI0.out NB0_256.out)) : gb264 ≠ g)); replace HI0 := Aside0.mk (IsS215.below (r6_ HI0.out NB0_256.out) hb); clear hb hbox hg; have hnb42 := NB264_256.out; have hnc42 := NB256_264.out; have hnb43 := NB264_0.out; have hnc43 := NB0_264.out; have hcz44_0 : w41.cell? ⟨gb264, 0, none⟩ = some (.int .i64 0) := (blk_cell BK264.out 0).trans rfl; have hcz44_1 : w41.cell? ⟨gb264, 1, none⟩ = some (.int .i64 0) := (blk_cell BK264.out 1).trans rfl; have hcz44_2 : w41.cell? ⟨gb264, 2, none⟩ = some (.int .i64 0) := (blk_cell BK264.out 2).trans rfl; have hcz44_3 : w41.cell? ⟨gb264, 3, none⟩ = some (.int .i64 0) := (blk_cell BK264.out 3).trans rfl; have hcz44_4 : w41.cell? ⟨gb264, 4, none⟩ = some (.int .i64 0) := (blk_cell BK264.out 4).trans rfl; have hfz44_0 := blk_frozen BK264.out 0; have hfz44_1 := blk_frozen BK264.out 1; have hfz44_2 := blk_frozen BK264.out 2; have hfz44_3 := blk_frozen BK264.out 3; have hfz44_4 := blk_frozen BK264.out 4) | ((with_reducible refine gate_callee (f := 129) rfl ?_); refine goesL_ (some 7) rfl rfl Try.func129 (by kernel_rfl) rfl #[.pointer (some ⟨g, 0, none⟩), .int .i64 60] rfl ag_ ?_; (with_reducible refine (spec_l01Next.calls g s0_0 t262 t263 60 t265 t266 t267 w0 _ ?side1 ?side2 A3.out).mono ?_); (case side1 => exact r8_ HI0.out NB0_256.out NB0_264.out); (case side2 => repeat (first | (with_reducible first | exact HB.out | apply below_alloc | apply pw_below_drewN | apply below_drew1 | refine below_set ?_ (IsS215.ge HI0.out) | refine below_set ?_ GE256.out | refine below_set ?_ GE264.out) | exact HB.out)); rintro e w45 ⟨rfl, hi, hb, hk⟩; refine ⟨_, rfl, ?_⟩; replace BK256 := Aside0.mk (KeepBut.blk hk (g' := gb256) (o := .cells #[.int .i64 0, .int .i64 0, .int .i64 0, .int .i64 0, .int .i64 0] 83 (0, 0)) (r11_ NB256_264.out BK256.out) NB256_0.out (by simp)); replace BK264 := Aside0.mk (KeepBut.blk hk (g' := gb264) (o := .cells #[.int .i64 t257, .int .i64 t258, .int .i64 t259, .int .i64 t260, .int .i64 t261] 83 (0, 0)) (by (with_reducible repeat (first | refine blk_drewN ?_ _ | refine blk_drew ?_ | refine blk_alloc ?_ _)); refine blk_put (cs := #[.int .i64 t257, .int .i64 t258, .int .i64 t259, .int .i64 t260, .int .i64 0]) ?_ 4 _ rfl; (with_reducible repeat (first | refine blk_drewN ?_ _ | refine blk_drew ?_ | refine blk_alloc ?_ _)); refine blk_put (cs := #[.int .i64 t257, .int .i64 t258, .int .i64 t259, .int .i64 0, .int .i64 0]) ?_ 3 _ rfl; (with_reducible repeat (first | refine blk_drewN ?_ _ | refine blk_drew ?_ | refine blk_alloc ?_ _)); refine blk_put (cs := #[.int .i64 t257, .int .i64 t258, .int .i64 0, .int .i64 0, .int .i64 0]) ?_ 2 _ rfl; (with_reducible repeat (first | refine blk_drewN ?_ _ | refine blk_drew ?_ | refine blk_alloc ?_ _)); refine blk_put (cs := #[.int .i64 t257, .int .i64 0, .int .i64 0, .int .i64 0, .int .i64 0]) ?_ 1 _ rfl; (with_reducible repeat (first | refine blk_drewN ?_ _ | refine blk_drew ?_ | refine blk_alloc ?_ _)); refine blk_put (cs := #[.int .i64 0, .int .i64 0, .int .i64 0, .int .i64 0, .int .i64 0]) ?_ 0 _ rfl; (with_reducible repeat (first | refine blk_drewN ?_ _ | refine blk_drew ?_ | refine blk_alloc ?_ _)); exact BK264.out) NB264_0.out (by simp)); replace HK := Aside0.mk (KeepBut.trans (r9_ HK.out GW256.out GW264.out) hk (.inl rfl)); replace HB := Aside0.mk (hb); replace HI0 := Aside0.mk (hi); (try clear hb); (try clear hb2); (try clear hk); (try clear hi)) | ((with_reducible refine gate_dst (N := 30) rfl ?_); refine Kd.R_lit (Kd.int .i64) _ 2 ?hg (N := 30) ?hd (xs := ([(-1), 0, 100000] : List Int)) (inner := [.int .i64 (-1), .int .i64 0, .int .i64 100000]) (ok := fun _ => True) (okp := fun _ => True) ?hr ?hp (fun _ hk => hk) trivial (Below.refl _ _) (Nat.le_refl _) (by simp) ?_; (case hd => rfl); (case hg => rfl); (case hr => first | (go_simp; done) | (go_simp; rfl)); (case hp => exact (Reps.one (show Kd.M (Kd.int .i64) _ _ _ (-1) [.int .i64 (-1)] from rfl) (Reps.one (show Kd.M (Kd.int .i64) _ _ _ 0 [.int .i64 0] from rfl) (Reps.one (show Kd.M (Kd.int .i64) _ _ _ 100000 [.int .i64 100000] from rfl) (Reps.none _ _))))); intro v281 w46 ho47 hb hg_ hnew_; clear hg_ hnew_; (first | rw [← Ny280.out] at ho47 | (simp only [Int.reduceToNat] at ho47; rw [← Ny280.out] at ho47)); have HO282 := Aside0.mk (Kd.R_lower ho47 (keep_size (w := w) (g := g) (row := none) (r9_ HK.out GW256.out GW264.out))); replace BK256 := Aside0.mk (blk_below (g := gb256) (o := .cells #[.int .i64 0, .int .i64 0, .int .i64 0, .int .i64 0, .int .i64 0] 83 (0, 0)) (r0_ BK256.out) hb); replace BK264 := Aside0.mk (blk_below (g := gb264) (o := .cells #[.int .i64 t257, .int .i64 t258, .int .i64 t259, .int .i64 t260, .int .i64 t261] 83 (0, 0)) (r0_ BK264.out) hb); replace HK := Aside0.mk (KeepBut.trans (r9_ HK.out GW256.out GW264.out) (KeepBut.of_below hb g none) (.inl rfl)); replace HB := Aside0.mk (below_step (by repeat (first | (with_reducible first | exact HB.out | apply below_alloc | apply pw_below_drewN | apply below_drew1 | refine below_set ?_ (IsS215.ge HI0.out) | refine below_set ?_ GE256.out | refine below_set ?_ GE264.out) | exact HB.out)) hb); replace HI0 := Aside0.mk (IsS215.below (r8_ HI0.out NB0_256.out NB0_264.out) hb); clear hb ho47; obtain ⟨Ao48, co48, eo48⟩ := Kd.R_slice HO282.out; subst eo48) | ((with_reducible refine gate_callee (f := 145) rfl ?_); refine goesL_ (some 31) rfl rfl Try.func145 (by kernel_rfl) rfl #[.pointer (some ⟨g, 0, none⟩), .slice Ao48 y280.length co48] rfl ag_ ?_; (with_reducible refine (spec_l01Pick.calls g s0_0 t266 t267 _ _ y280 t283 t284 t285 w0 _ ?side1 ?side2 ?side3 ?side4 ?side5 A38.out).mono ?_); (case side1 => exact r8_ HI0.out NB0_256.out NB0_264.out); (case side2 => repeat (first | (with_reducible first | exact HB.out | apply below_alloc | apply pw_below_drewN | apply below_drew1 | refine below_set ?_ (IsS215.ge HI0.out) | refine below_set ?_ GE256.out | refine below_set ?_ GE264.out) | exact HB.out)); (case side3 => exact r13_ HO282.out); (case side4 => exact (Kd.R_reads' HO282.out).2.1); (case side5 => exact far_slice (IsS215.own_ne HI0.out HO282.out (by decide))); rintro e w49 ⟨rfl, hi, hb, hk⟩; refine ⟨_, rfl, ?_⟩; replace BK256 := Aside0.mk (KeepBut.blk hk (g' := gb256) (o := .cells #[.int .i64 0, .int .i64 0, .int .i64 0, .int .i64 0, .int .i64 0] 83 (0, 0)) (r0_ BK256.out) NB256_0.out (by simp)); replace BK264 := Aside0.mk (KeepBut.blk hk (g' := gb264) (o := .cells #[.int .i64 t257, .int .i64 t258, .int .i64 t259, .int .i64 t260, .int .i64 t261] 83 (0, 0)) (r0_ BK264.out) NB264_0.out (by simp)); replace HO282 := Aside0.mk (Kd.R_mono (Kd.R_keep (IsS215.apart (show IsS215 w0 _ g s0_0 t266 t267 from r8_ HI0.out NB0_256.out NB0_264.out) (rk_ HO282.out) (by decide)) hk (fun _ h => h.2)) (fun _ h => h.1)); replace HK := Aside0.mk (KeepBut.trans (r9_ HK.out GW256.out GW264.out) hk (.inl rfl)); replace HB := Aside0.mk (hb); replace HI0 := Aside0.mk (hi); (try clear hb); (try clear hb2); (try clear hk); (try clear hi); have hcz50_0 : w49.cell? ⟨gb264, 0, none⟩ = some (.int .i64 t257) := (blk_cell BK264.out 0).trans rfl; have hcz50_1 : w49.cell? ⟨gb264, 1, none⟩ = some (.int .i64 t258) := (blk_cell BK264.out 1).trans rfl; have hcz50_2 : w49.cell? ⟨gb264, 2, none⟩ = some (.int .i64 t259) := (blk_cell BK264.out 2).trans rfl; have hcz50_3 : w49.cell? ⟨gb264, 3, none⟩ = some (.int .i64 t260) := (blk_cell BK264.out 3).trans rfl; have hcz50_4 : w49.cell? ⟨gb264, 4, none⟩ = some (.int .i64 t261) := (blk_cell BK264.out 4).trans rfl; have hfz50_0 := blk_frozen BK264.out 0; have hfz50_1 := blk_frozen BK264.out 1; have hfz50_2 := blk_frozen BK264.out 2; have hfz50_3 := blk_frozen BK264.out 3; have hfz50_4 := blk_frozen BK264.out 4; have hnb51 := NB256_0.out; have hnc51 := NB0_256.out; have hcz52_0 : w49.cell? ⟨gb256, 0, none⟩ = some (.int .i64 0) := (blk_cell BK256.out 0).trans rfl; have hcz52_1 : w49.cell? ⟨gb256, 1, none⟩ = some (.int .i64 0) := (blk_cell BK256.out 1).trans rfl; have hcz52_2 : w49.cell? ⟨gb256, 2, none⟩ = some (.int .i64 0) := (blk_cell BK256.out 2).trans rfl; have hcz52_3 : w49.cell? ⟨gb256, 3, none⟩ = some (.int .i64 0) := (blk_cell BK256.out 3).trans rfl; have hcz52_4 : w49.cell? ⟨gb256, 4, none⟩ = some (.int .i64 0) := (blk_cell BK256.out 4).trans rfl; have hfz52_0 := blk_frozen BK256.out 0; have hfz52_1 := blk_frozen BK256.out 1; have hfz52_2 := blk_frozen BK256.out 2; have hfz52_3 := blk_frozen BK256.out 3; have hfz52_4 := blk_frozen BK256.out 4))
    refine bodyPost_ret (results_cell_row rfl _ _ gb256 83 #[.int .i64 t257, .int .i64 t258, .int .i64 t283, .int .i64 t260, .int .i64 t261] (0, 0) _ rfl (by (with_reducible repeat (first | refine blk_drewN ?_ _ | refine blk_drew ?_ | refine blk_alloc ?_ _)); refine blk_put (cs := #[.int .i64 t257, .int .i64 t258, .int .i64 t283, .int .i64 t260, .int .i64 0]) ?_ 4 _ rfl; (with_reducible repeat (first | refine blk_drewN ?_ _ | refine blk_drew ?_ | refine blk_alloc ?_ _)); refine blk_put (cs := #[.int .i64 t257, .int .i64 t258, .int .i64 t283, .int .i64 0, .int .i64 0]) ?_ 3 _ rfl; (with_reducible repeat (first | refine blk_drewN ?_ _ | refine blk_drew ?_ | refine blk_alloc ?_ _)); refine blk_put (cs := #[.int .i64 t257, .int .i64 t258, .int .i64 0, .int .i64 0, .int .i64 0]) ?_ 2 _ rfl; (with_reducible repeat (first | refine blk_drewN ?_ _ | refine blk_drew ?_ | refine blk_alloc ?_ _)); refine blk_put (cs := #[.int .i64 t257, .int .i64 0, .int .i64 0, .int .i64 0, .int .i64 0]) ?_ 1 _ rfl; (with_reducible repeat (first | refine blk_drewN ?_ _ | refine blk_drew ?_ | refine blk_alloc ?_ _)); refine blk_put (cs := #[.int .i64 0, .int .i64 0, .int .i64 0, .int .i64 0, .int .i64 0]) ?_ 0 _ rfl; (with_reducible repeat (first | refine blk_drewN ?_ _ | refine blk_drew ?_ | refine blk_alloc ?_ _)); refine blk_far ?_ NB256_264.out _; (with_reducible repeat (first | refine blk_drewN ?_ _ | refine blk_drew ?_ | refine blk_alloc ?_ _)); exact BK256.out) Try.underlying83 rfl (by kernel_rfl)) rfl ?_
    exact ⟨by first | rfl | (simp [errW_none, errW_some] <;> rfl) | (simp [*, errW_none, errW_some] <;> rfl), r8_ HI0.out NB0_256.out NB0_264.out, by repeat (first | (with_reducible first | exact HB.out | apply below_alloc | apply pw_below_drewN | apply below_drew1 | refine below_set ?_ (IsS215.ge HI0.out) | refine below_set ?_ GE256.out | refine below_set ?_ GE264.out) | exact HB.out), r9_ HK.out GW256.out GW264.out⟩
   ·rw [if_neg c37] at H
    have c37b0 : (t265 == 2) = false := beq_eq_false_iff_ne.mpr c37
    have c37b1 : (t265 != 2) = true := bne_iff_ne.mpr c37
    simp only [Option.some.injEq, Prod.mk.injEq] at H
    obtain ⟨rfl, rfl, rfl, rfl, rfl, rfl, rfl⟩ := H
    go_enter Try.func194, Try.ntmps194
    go_wp2_with (first | ((with_reducible refine gate_dst (N := 2) rfl ?_); refine box_event ?hg (N := 2) ?hd (cs := #[.int .i64 0, .int .i64 0, .int .i64 0, .int .i64 0, .int .i64 0]) (t := 83) ?hr ?_; (case hd => rfl); (case hg => rfl); (case hr => first | (go_simp; done) | (go_simp; rfl)); intro gb256 hg w53 hbox hb; replace HB := Aside0.mk (below_step (r4_ HB.out HI0.out) hb); have BK256 := Aside0.mk (hbox); have GW256 := Aside0.mk ((by rw [hg]; exact (keep_size (w := w) (g := g) (row := none) (r3_ HK.out)) : w.heap.size ≤ gb256)); have GE256 := Aside0.mk ((Nat.le_trans HW0.out (by rw [hg]; exact (keep_size (w := w) (g := g) (row := none) (r3_ HK.out)) : w.heap.size ≤ gb256) : w0.heap.size ≤ gb256)); replace HK := Aside0.mk (KeepBut.trans (r3_ HK.out) (KeepBut.of_below hb g none) (.inl rfl)); have NB0_256 := Aside0.mk ((by rw [hg]; exact Nat.ne_of_lt (IsS215.lt (show IsS215 w0 _ g s0_0 s0_1 s0_2 from r2_ HI0.out)) : g ≠ gb256)); have NB256_0 := Aside0.mk ((by rw [hg]; exact Nat.ne_of_gt (IsS215.lt (show IsS215 w0 _ g s0_0 s0_1 s0_2 from r2_ HI0.out)) : gb256 ≠ g)); replace HI0 := Aside0.mk (IsS215.below (r2_ HI0.out) hb); clear hb hbox hg) | ((with_reducible refine gate_callee (f := 196) rfl ?_); refine goesL_ (some 5) rfl rfl Try.func196 (by kernel_rfl) rfl #[.pointer (some ⟨g, 0, none⟩)] rfl ag_ ?_; (with_reducible refine (spec_l15Good.calls g s0_0 s0_1 s0_2 t257 t258 t259 t260 t261 t262 t263 w0 _ ?side1 ?side2 A2.out).mono ?_); (case side1 => exact r6_ HI0.out NB0_256.out); (case side2 => exact r10_ HB.out HI0.out GE256.out); rintro e w54 ⟨rfl, hi, hb, hk⟩; refine ⟨_, rfl, ?_⟩; replace BK256 := Aside0.mk (KeepBut.blk hk (g' := gb256) (o := .cells #[.int .i64 0, .int .i64 0, .int .i64 0, .int .i64 0, .int .i64 0] 83 (0, 0)) (r0_ BK256.out) NB256_0.out (by simp)); replace HK := Aside0.mk (KeepBut.trans (r7_ HK.out GW256.out) hk (.inl rfl)); replace HB := Aside0.mk (hb); replace HI0 := Aside0.mk (hi); (try clear hb); (try clear hb2); (try clear hk); (try clear hi)) | ((with_reducible refine gate_dst (N := 3) rfl ?_); refine box_event ?hg (N := 3) ?hd (cs := #[.int .i64 0, .int .i64 0, .int .i64 0, .int .i64 0, .int .i64 0]) (t := 83) ?hr ?_; (case hd => rfl); (case hg => rfl); (case hr => first | (go_simp; done) | (go_simp; rfl)); intro gb264 hg w55 hbox hb; replace HB := Aside0.mk (below_step (r10_ HB.out HI0.out GE256.out) hb); have BK264 := Aside0.mk (hbox); have GW264 := Aside0.mk ((by rw [hg]; exact (keep_size (w := w) (g := g) (row := none) (r7_ HK.out GW256.out)) : w.heap.size ≤ gb264)); have GE264 := Aside0.mk ((Nat.le_trans HW0.out (by rw [hg]; exact (keep_size (w := w) (g := g) (row := none) (r7_ HK.out GW256.out)) : w.heap.size ≤ gb264) : w0.heap.size ≤ gb264)); replace HK := Aside0.mk (KeepBut.trans (r7_ HK.out GW256.out) (KeepBut.of_below hb g none) (.inl rfl)); have NB256_264 := Aside0.mk ((by rw [hg]; exact Nat.ne_of_lt (blk_lt (g := gb256) (o := .cells #[.int .i64 0, .int .i64 0, .int .i64 0, .int .i64 0, .int .i64 0] 83 (0, 0)) (r0_ BK256.out)) : gb256 ≠ gb264)); have NB264_256 := Aside0.mk ((by rw [hg]; exact Nat.ne_of_gt (blk_lt (g := gb256) (o := .cells #[.int .i64 0, .int .i64 0, .int .i64 0, .int .i64 0, .int .i64 0] 83 (0, 0)) (r0_ BK256.out)) : gb264 ≠ gb256)); replace BK256 := Aside0.mk (blk_below (g := gb256) (o := .cells #[.int .i64 0, .int .i64 0, .int .i64 0, .int .i64 0, .int .i64 0] 83 (0, 0)) (r0_ BK256.out) hb); have NB0_264 := Aside0.mk ((by rw [hg]; exact Nat.ne_of_lt (IsS215.lt (show IsS215 w0 _ g s0_0 t262 t263 from r6_ HI0.out NB0_256.out)) : g ≠ gb264)); have NB264_0 := Aside0.mk ((by rw [hg]; exact Nat.ne_of_gt (IsS215.lt (show IsS215 w0 _ g s0_0 t262 t263 from r6_ HI0.out NB0_256.out)) : gb264 ≠ g)); replace HI0 := Aside0.mk (IsS215.below (r6_ HI0.out NB0_256.out) hb); clear hb hbox hg; have hnb56 := NB264_256.out; have hnc56 := NB256_264.out; have hnb57 := NB264_0.out; have hnc57 := NB0_264.out; have hcz58_0 : w55.cell? ⟨gb264, 0, none⟩ = some (.int .i64 0) := (blk_cell BK264.out 0).trans rfl; have hcz58_1 : w55.cell? ⟨gb264, 1, none⟩ = some (.int .i64 0) := (blk_cell BK264.out 1).trans rfl; have hcz58_2 : w55.cell? ⟨gb264, 2, none⟩ = some (.int .i64 0) := (blk_cell BK264.out 2).trans rfl; have hcz58_3 : w55.cell? ⟨gb264, 3, none⟩ = some (.int .i64 0) := (blk_cell BK264.out 3).trans rfl; have hcz58_4 : w55.cell? ⟨gb264, 4, none⟩ = some (.int .i64 0) := (blk_cell BK264.out 4).trans rfl; have hfz58_0 := blk_frozen BK264.out 0; have hfz58_1 := blk_frozen BK264.out 1; have hfz58_2 := blk_frozen BK264.out 2; have hfz58_3 := blk_frozen BK264.out 3; have hfz58_4 := blk_frozen BK264.out 4) | ((with_reducible refine gate_callee (f := 129) rfl ?_); refine goesL_ (some 7) rfl rfl Try.func129 (by kernel_rfl) rfl #[.pointer (some ⟨g, 0, none⟩), .int .i64 60] rfl ag_ ?_; (with_reducible refine (spec_l01Next.calls g s0_0 t262 t263 60 t265 t266 t267 w0 _ ?side1 ?side2 A3.out).mono ?_); (case side1 => exact r8_ HI0.out NB0_256.out NB0_264.out); (case side2 => repeat (first | (with_reducible first | exact HB.out | apply below_alloc | apply pw_below_drewN | apply below_drew1 | refine below_set ?_ (IsS215.ge HI0.out) | refine below_set ?_ GE256.out | refine below_set ?_ GE264.out) | exact HB.out)); rintro e w59 ⟨rfl, hi, hb, hk⟩; refine ⟨_, rfl, ?_⟩; replace BK256 := Aside0.mk (KeepBut.blk hk (g' := gb256) (o := .cells #[.int .i64 0, .int .i64 0, .int .i64 0, .int .i64 0, .int .i64 0] 83 (0, 0)) (r11_ NB256_264.out BK256.out) NB256_0.out (by simp)); replace BK264 := Aside0.mk (KeepBut.blk hk (g' := gb264) (o := .cells #[.int .i64 t257, .int .i64 t258, .int .i64 t259, .int .i64 t260, .int .i64 t261] 83 (0, 0)) (by (with_reducible repeat (first | refine blk_drewN ?_ _ | refine blk_drew ?_ | refine blk_alloc ?_ _)); refine blk_put (cs := #[.int .i64 t257, .int .i64 t258, .int .i64 t259, .int .i64 t260, .int .i64 0]) ?_ 4 _ rfl; (with_reducible repeat (first | refine blk_drewN ?_ _ | refine blk_drew ?_ | refine blk_alloc ?_ _)); refine blk_put (cs := #[.int .i64 t257, .int .i64 t258, .int .i64 t259, .int .i64 0, .int .i64 0]) ?_ 3 _ rfl; (with_reducible repeat (first | refine blk_drewN ?_ _ | refine blk_drew ?_ | refine blk_alloc ?_ _)); refine blk_put (cs := #[.int .i64 t257, .int .i64 t258, .int .i64 0, .int .i64 0, .int .i64 0]) ?_ 2 _ rfl; (with_reducible repeat (first | refine blk_drewN ?_ _ | refine blk_drew ?_ | refine blk_alloc ?_ _)); refine blk_put (cs := #[.int .i64 t257, .int .i64 0, .int .i64 0, .int .i64 0, .int .i64 0]) ?_ 1 _ rfl; (with_reducible repeat (first | refine blk_drewN ?_ _ | refine blk_drew ?_ | refine blk_alloc ?_ _)); refine blk_put (cs := #[.int .i64 0, .int .i64 0, .int .i64 0, .int .i64 0, .int .i64 0]) ?_ 0 _ rfl; (with_reducible repeat (first | refine blk_drewN ?_ _ | refine blk_drew ?_ | refine blk_alloc ?_ _)); exact BK264.out) NB264_0.out (by simp)); replace HK := Aside0.mk (KeepBut.trans (r9_ HK.out GW256.out GW264.out) hk (.inl rfl)); replace HB := Aside0.mk (hb); replace HI0 := Aside0.mk (hi); (try clear hb); (try clear hb2); (try clear hk); (try clear hi); have hcz60_0 : w59.cell? ⟨gb264, 0, none⟩ = some (.int .i64 t257) := (blk_cell BK264.out 0).trans rfl; have hcz60_1 : w59.cell? ⟨gb264, 1, none⟩ = some (.int .i64 t258) := (blk_cell BK264.out 1).trans rfl; have hcz60_2 : w59.cell? ⟨gb264, 2, none⟩ = some (.int .i64 t259) := (blk_cell BK264.out 2).trans rfl; have hcz60_3 : w59.cell? ⟨gb264, 3, none⟩ = some (.int .i64 t260) := (blk_cell BK264.out 3).trans rfl; have hcz60_4 : w59.cell? ⟨gb264, 4, none⟩ = some (.int .i64 t261) := (blk_cell BK264.out 4).trans rfl; have hfz60_0 := blk_frozen BK264.out 0; have hfz60_1 := blk_frozen BK264.out 1; have hfz60_2 := blk_frozen BK264.out 2; have hfz60_3 := blk_frozen BK264.out 3; have hfz60_4 := blk_frozen BK264.out 4; have hnb61 := NB256_0.out; have hnc61 := NB0_256.out; have hcz62_0 : w59.cell? ⟨gb256, 0, none⟩ = some (.int .i64 0) := (blk_cell BK256.out 0).trans rfl; have hcz62_1 : w59.cell? ⟨gb256, 1, none⟩ = some (.int .i64 0) := (blk_cell BK256.out 1).trans rfl; have hcz62_2 : w59.cell? ⟨gb256, 2, none⟩ = some (.int .i64 0) := (blk_cell BK256.out 2).trans rfl; have hcz62_3 : w59.cell? ⟨gb256, 3, none⟩ = some (.int .i64 0) := (blk_cell BK256.out 3).trans rfl; have hcz62_4 : w59.cell? ⟨gb256, 4, none⟩ = some (.int .i64 0) := (blk_cell BK256.out 4).trans rfl; have hfz62_0 := blk_frozen BK256.out 0; have hfz62_1 := blk_frozen BK256.out 1; have hfz62_2 := blk_frozen BK256.out 2; have hfz62_3 := blk_frozen BK256.out 3; have hfz62_4 := blk_frozen BK256.out 4))
    refine bodyPost_ret (results_cell_row rfl _ _ gb256 83 #[.int .i64 t257, .int .i64 t258, .int .i64 t259, .int .i64 t260, .int .i64 t261] (0, 0) _ rfl (by (with_reducible repeat (first | refine blk_drewN ?_ _ | refine blk_drew ?_ | refine blk_alloc ?_ _)); refine blk_put (cs := #[.int .i64 t257, .int .i64 t258, .int .i64 t259, .int .i64 t260, .int .i64 0]) ?_ 4 _ rfl; (with_reducible repeat (first | refine blk_drewN ?_ _ | refine blk_drew ?_ | refine blk_alloc ?_ _)); refine blk_put (cs := #[.int .i64 t257, .int .i64 t258, .int .i64 t259, .int .i64 0, .int .i64 0]) ?_ 3 _ rfl; (with_reducible repeat (first | refine blk_drewN ?_ _ | refine blk_drew ?_ | refine blk_alloc ?_ _)); refine blk_put (cs := #[.int .i64 t257, .int .i64 t258, .int .i64 0, .int .i64 0, .int .i64 0]) ?_ 2 _ rfl; (with_reducible repeat (first | refine blk_drewN ?_ _ | refine blk_drew ?_ | refine blk_alloc ?_ _)); refine blk_put (cs := #[.int .i64 t257, .int .i64 0, .int .i64 0, .int .i64 0, .int .i64 0]) ?_ 1 _ rfl; (with_reducible repeat (first | refine blk_drewN ?_ _ | refine blk_drew ?_ | refine blk_alloc ?_ _)); refine blk_put (cs := #[.int .i64 0, .int .i64 0, .int .i64 0, .int .i64 0, .int .i64 0]) ?_ 0 _ rfl; (with_reducible repeat (first | refine blk_drewN ?_ _ | refine blk_drew ?_ | refine blk_alloc ?_ _)); exact BK256.out) Try.underlying83 rfl (by kernel_rfl)) rfl ?_
    exact ⟨by first | rfl | (simp [errW_none, errW_some] <;> rfl) | (simp [*, errW_none, errW_some] <;> rfl), r8_ HI0.out NB0_256.out NB0_264.out, by repeat (first | (with_reducible first | exact HB.out | apply below_alloc | apply pw_below_drewN | apply below_drew1 | refine below_set ?_ (IsS215.ge HI0.out) | refine below_set ?_ GE256.out | refine below_set ?_ GE264.out) | exact HB.out), r9_ HK.out GW256.out GW264.out⟩
end Go.Proofs.Ytedcdhnbceaaeaa.PFnAreaTexts
