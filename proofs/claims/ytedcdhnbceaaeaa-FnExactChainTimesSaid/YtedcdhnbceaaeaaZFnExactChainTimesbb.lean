/- QFnExactChainTimesc of the law FnExactChainTimes: taken over, declaration by declaration, as far as the law leans on it (the words and the printed functions are the kit's own print). No condition but what each says. -/
import Derived.Test.YtedcdhnbceaaeaaZFnExactChainTimesav
import Derived.Test.YtedcdhnbceaaeaaZFnExactChainTimesba
import Derived.Test.YtedcdhnbceaaeaaZFnExactChainTimesaw
import Derived.Test.YtedcdhnbceaaeaaZFnExactChainTimesay
namespace Go.Proofs.Ytedcdhnbceaaeaa.PFnExactChainTimes
open Go.RowKit Go.Proofs.YtedcdhnbceaaeaaW.PrintWords Go.Proofs.YtedcdhnbceaaeaaW.PrintLast Go.Proofs.YtedcdhnbceaaeaaW.PrintMore
attribute [local go_sem] max2_int min2_int max_two min_two max_three min_three max_four min_four   -- for this text's walks alone
set_option linter.unusedVariables false
set_option linter.unusedSimpArgs false
def laws_markInt64SS.l0 : Nat → List (List Int) → Int → Int → Option (Int × List (List Int))
 | 0, _, _, _ => none
 | k + 1, x0, x1, x5 => if x5 < (x0.length : Int) then (if 0 ≤ x5 then ((laws_markInt64S.f k (rd_L3 x0 x5) x1).bind fun bt => laws_markInt64SS.l0 k (x0.set x5.toNat bt.2) bt.1 (wrap64 (x5 + 1))) else (none)) else (some (x1, x0))
def laws_markInt64SS.f (k : Nat) (l0 : List (List Int)) (a1 : Int) : Option (Int × List (List Int)) := laws_markInt64SS.l0 k l0 a1 0
/-- An element's row lent out: whatever is done to its own blocks, the whole is whole again behind it. -/
theorem S_lendK {α : Type} {d : Kd α} {e base n cap : Nat} {W : World} {ok : Nat → Prop} {ad : Addr} {xs : List α} (h : Kd.S d e W base ok (.slice (some ad) n cap) xs) (z : α) (i : Int) (h0 : 0 ≤ i) (h1 : i < n) :
  ∃ (oki : Nat → Prop) (c : List Value), c.length = d.sz ∧ d.M W base oki (xs.getD i.toNat z) c ∧ (∀ j u, c[j]? = some u → W.cell? (ad.add (i.toNat * d.sz + j)) = some u) ∧ (∀ k, oki k → ok k) ∧
   ∀ (w1 : World) (x' : α) (okp : Nat → Prop), Kept W w1 oki → d.M w1 base okp x' c → (∀ k, okp k → oki k ∨ W.heap.size ≤ k) → (∀ k, W.heap.size ≤ k → ok k) → Kd.S d e w1 base ok (.slice (some ad) n cap) (xs.set i.toNat x') := by
 obtain ⟨g, rfl⟩ := Kd.R_head (Kd.S_R h)
 obtain ⟨oki, c, hcl, hM, hcc, hoki, hH⟩ := Kd.S_lend h z i h0 h1
 refine ⟨oki, c, hcl, hM, fun j u hu => ?_, fun k hk => (hoki k hk).1, fun w1 x' okp hK hM1 hp hn => ?_⟩
 ·rw [add_at, Nat.zero_add]
  exact hcc j u hu
 ·have h2 := Kd.H_step (w1 := w1) (Kd.H_widen hH) (fun k _ hni hlt => hK.2 k hlt (fun hk => hni (.inl hk)))
  exact Kd.H_back h2 hM1 (fun k hk => (hp k hk).elim .inl (fun hs => .inr ⟨hn k hs, hs⟩))
set_option maxHeartbeats 8000000 in
set_option maxRecDepth 100000 in
theorem laws_markInt64SS.calls (k : Nat) (P0_ : Nat → Prop) (u9000_ : Value) (l0 : List (List Int)) (a1 : Int) (r1 : Int) (r2 : List (List Int)) (w0 w : World) (hB : Below w0.heap.size w0 w) (ho0 : Kd.S (Kd.slice 2 (Kd.int .i64)) 24 w w0.heap.size P0_ u9000_ l0) (h : laws_markInt64SS.f k l0 a1 = some (r1, r2)) :
  Calls Try.prog 71 #[u9000_, .int .i64 a1] w fun e w' => e = .returned (.int .i64 r1) ∧ Kd.S (Kd.slice 2 (Kd.int .i64)) 24 w' w0.heap.size (fun k_ => (P0_ k_ ∨ w.heap.size ≤ k_)) u9000_ r2 ∧ Below w0.heap.size w0 w' ∧ Kept w w' (fun k_ => P0_ k_) := by
 have HO0 := Aside0.mk (show Kd.S (Kd.slice 2 (Kd.int .i64)) 24 w w0.heap.size (fun k_ => (P0_ k_ ∨ w.heap.size ≤ k_)) u9000_ l0 from Kd.S_mono ho0 (fun k_ hk => (.inl hk)))
 have HK := Aside0.mk (Kept.refl w (fun k_ => P0_ k_))
 have HB := Aside0.mk hB
 clear hB ho0
 have H : (laws_markInt64SS.l0 k l0 a1 0) = some (r1, r2) := h
 clear h
 have H' := Aside0.mk H
 clear H
 go_enter Try.func71, Try.ntmps71
 go_wp2
 go_loopg [1, 5] k (fun kq v1 v5 w' => ∃ (x0_1 : List (List Int)) (x1_1 : Int) (x5_1 : Int), v1 = .int .i64 x1_1 ∧ v5 = .int .i64 x5_1 ∧ Aside0 (laws_markInt64SS.l0 kq x0_1 x1_1 x5_1 = some (r1, r2)) ∧ Aside0 (kq ≤ k) ∧ Aside0 (Kd.S (Kd.slice 2 (Kd.int .i64)) 24 w' w0.heap.size (fun k_ => (P0_ k_ ∨ w.heap.size ≤ k_)) u9000_ x0_1) ∧ Aside0 (Kept w w' (fun k_ => P0_ k_)) ∧ Aside0 (Below w0.heap.size w0 w'))
 case atStart => exact ⟨(l0), (a1), (0), (by first | rfl | (simp; done) | (simp [*]; done)), (by first | rfl | (simp; done) | (simp [*]; done)), H', ⟨Nat.le_refl _⟩, ⟨by (with_reducible repeat (first | apply Kd.S_alloc | apply Kd.S_drewN | apply Kd.S_drew)); exact HO0.out⟩, ⟨by repeat (first | (with_reducible first | exact HK.out | apply Kept.alloc | apply Kept.drewN | apply Kept.drew) | exact HK.out)⟩, ⟨bl_ HB.out⟩⟩
 case round =>
  clear H'
  try clear c2
  try clear p2
  obtain ⟨x0_1, x1_1, x5_1, rfl, rfl, HA, HK1, HO_0, HK, HB⟩ := hrel
  cases gk with
  | zero => exact absurd HA.out (by simp [laws_markInt64SS.l0])
  | succ k1 =>
   have H := HA.out
   clear HA
   simp only [laws_markInt64SS.l0] at H
   by_cases c3 : x5_1 < (x0_1.length : Int)
   ·rw [if_pos c3] at H
    have c3b0 : decide (x5_1 < (x0_1.length : Int)) = true := decide_eq_true c3
    by_cases c4 : 0 ≤ x5_1
    case neg =>
     rw [if_neg c4] at H
     exact absurd H (by simp)
    rw [if_pos c4] at H
    have c4b0 : decide (0 ≤ x5_1) = true := decide_eq_true c4
    replace H := Option.bind_eq_some_iff.mp H
    obtain ⟨⟨t1, t2⟩, A50, H⟩ := H
    have A5 := Aside0.mk A50
    clear A50
    have H' := Aside0.mk H
    clear H
    obtain ⟨Ao6, co6, eo6⟩ := Kd.S_slice HO_0.out
    subst eo6
    obtain ⟨ad182, A182_0, c182_0, e182, hx182_0, hl182_0, hi182_0⟩ := at_L3 (Kd.S_reads' HO_0.out).2.2 x5_1 c4 c3
    cases e182
    obtain ⟨oki, cs_, hcl_, hM_, hcc_, hok_, hback_⟩ := S_lendK HO_0.out ([] : List Int) x5_1 c4 c3
    obtain ⟨vi_, rfl, hR_⟩ := hM_
    have ev_ : vi_ = .slice A182_0 (rd_L3 x0_1 x5_1).length c182_0 := by
     have h1_ := hcc_ 0 vi_ rfl
     have h2_ : wr.cell? (ad182.add (x5_1.toNat * 1 + 0)) = some vi_ := h1_
     rw [show x5_1.toNat * 1 + 0 = x5_1.toNat by omega] at h2_
     rw [h2_] at hx182_0
     exact Option.some.inj hx182_0
    subst ev_
    have HRi := Aside0.mk (show Kd.R (Kd.int .i64) 2 wr w0.heap.size oki (.slice A182_0 (rd_L3 x0_1 x5_1).length c182_0) (rd_L3 x0_1 x5_1) from hR_)
    have HL_ := Aside0.mk hback_
    have HP_ := Aside0.mk hok_
    clear hl182_0 hi182_0 hcc_ hcl_ hR_ hback_ hok_
    have p182 : (0 ≤ x5_1) = True := eq_true c4
    have q182 : (x5_1 < (x0_1.length : Int)) = True := eq_true c3
    clear c3 c4
    go_wp2_with (first | ((with_reducible refine gate_callee (f := 27) rfl ?_); refine goesL_ (some 17) rfl rfl Try.func27 (by kernel_rfl) rfl #[.slice A182_0 (rd_L3 x0_1 x5_1).length c182_0, .int .i64 x1_1] rfl (by (try simp only [List.map_toArray, List.map_cons, List.map_nil]); first | done | rfl | (simp only [List.length_drop, List.length_take]; rfl)) ?_; (with_reducible refine (laws_markInt64S.calls k1 oki _ (rd_L3 x0_1 x5_1) x1_1 t1 t2 w0 _ ?shB ?sho0 A5.out).mono ?_); (case shB => repeat (first | (with_reducible first | exact HB.out | apply below_alloc | apply pw_below_drewN | apply below_drew1) | exact HB.out)); (case sho0 => exact (by (with_reducible repeat (first | apply Kd.R_alloc | apply Kd.R_drewN | apply Kd.R_drew)); exact HRi.out)); rintro e w' ⟨rfl, hy0, hb, hkp⟩; refine ⟨_, rfl, ?_⟩; have n0_ := Aside0.mk (HL_.out _ t2 _ hkp ⟨_, rfl, hy0⟩ (fun _ hk => hk) (fun k_ hk => .inr (Nat.le_trans HK.out.1 hk))); have n1_ := Aside0.mk hb; have n2_ := Aside0.mk (Kept.then_ HK.out hkp (fun k_ hk => HP_.out k_ hk)); clear HO_0 HB HK HRi HL_ hy0 hb hkp; have HO_0 := n0_; have HB := n1_; have HK := n2_; clear n0_ n1_ n2_))
    go_roundg k1
    case measure => have := HK1.out; omega
    case rel => exact ⟨(x0_1.set x5_1.toNat t2), t1, (wrap64 (x5_1 + 1)), (by first | rfl | (simp; done) | (simp [*]; done)), (by first | rfl | (simp; done) | (simp [*]; done)), H', ⟨by have := HK1.out; omega⟩, ⟨by (with_reducible repeat (first | apply Kd.S_alloc | apply Kd.S_drewN | apply Kd.S_drew)); exact HO_0.out⟩, ⟨by repeat (first | (with_reducible first | exact HK.out | apply Kept.alloc | apply Kept.drewN | apply Kept.drew) | exact HK.out)⟩, ⟨bl_ HB.out⟩⟩
   ·rw [if_neg c3] at H
    have c3b0 : decide (x5_1 < (x0_1.length : Int)) = false := decide_eq_false c3
    clear c3
    simp only [Option.some.injEq, Prod.mk.injEq] at H
    obtain ⟨rfl, rfl⟩ := H
    obtain ⟨Ao9, co9, eo9⟩ := Kd.S_slice HO_0.out
    subst eo9
    go_wp2
    go_ret
    exact ⟨by first | rfl | (simp [errW_none, errW_some] <;> rfl) | (simp [*, errW_none, errW_some] <;> rfl), by (with_reducible repeat (first | apply Kd.S_alloc | apply Kd.S_drewN | apply Kd.S_drew)); exact HO_0.out, bl_ HB.out, by repeat (first | (with_reducible first | exact HK.out | apply Kept.alloc | apply Kept.drewN | apply Kept.drew) | exact HK.out)⟩
end Go.Proofs.Ytedcdhnbceaaeaa.PFnExactChainTimes
