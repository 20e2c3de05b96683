/- Ca of the law FnExactWorstPins: taken over, declaration by declaration, as far as the law leans on it (the words and the printed functions are the kit's own print). No condition but what each says. -/
import Derived.Test.YtmahecjbejffoaaZFnExactWorstPinsaz
import Derived.Test.YtmahecjbejffoaaZFnExactWorstPinsbb
namespace Go.Proofs.Ytmahecjbejffoaa.PFnExactWorstPins
open Go.RowKit Go.Proofs.YtmahecjbejffoaaW.PrintWords Go.Proofs.YtmahecjbejffoaaW.PrintLast Go.Proofs.YtmahecjbejffoaaW.PrintMore Go.Proofs.Ytmahecjbejffoaa.Owned
attribute [local go_sem] max2_int min2_int max_two min_two max_three min_three max_four min_four
set_option linter.unusedVariables false
set_option linter.unusedSimpArgs false
theorem C_moved {A : Option Addr} {n : Nat} {xs : List Int} {w w1 : World} (h : (Kd.int .i64).C w A n xs) (hm : ∀ ad, A = some ad → w1.heap[ad.block]? = w.heap[ad.block]?) : (Kd.int .i64).C w1 A n xs :=
  ⟨ h.1, h.2.1, fun hn => by
    obtain ⟨ad, e, hc⟩ := h.2.2 hn
    refine ⟨ad, e, fun j p hj => ?_⟩
    obtain ⟨c, hs, hr, hcell⟩ := hc j p hj
    exact ⟨c, hs, hr, fun i u hu => (World.cell?_of_block (by rw [add_block]; exact hm ad e)).trans (hcell i u hu)⟩⟩
/-- What lies behind a slice's head: F, whatever its length. -/
def Sv (w : World) (v : Value) (F : List Int) : Prop := ∀ A n c, v = .slice A n c → (Kd.int .i64).C w A F.length F ∧ F.length ≤ c
theorem Sv.below {w w1 : World} {v : Value} {F : List Int} (h : Sv w v F) (hb : Below w.heap.size w w1) : Sv w1 v F := fun A n c e => ⟨Kd.C_below (h A n c e).1 hb, (h A n c e).2⟩
theorem Sv.moved {w w1 : World} {v : Value} {F : List Int} (h : Sv w v F) (hm : ∀ k, v.ownBlock = some k → w1.heap[k]? = w.heap[k]?) : Sv w1 v F := fun A n c e => ⟨C_moved (h A n c e).1 (fun ad ea => hm _ (by rw [e, ea]; rfl)), (h A n c e).2⟩
theorem Sv.far {w : World} {v : Value} {F : List Int} {p : Addr} {u : Value} (h : Sv w v F) (hne : ∀ k, v.ownBlock = some k → k ≠ p.block) : Sv (w.setCell p u) v F := h.moved (fun k hk => Below.heap_setCell w p u k (hne k hk))
theorem Sv.nil (w : World) : Sv w (.slice none 0 0) [] := fun A n c e => by
  injection e with e1 e2 e3
  subst e1 e3
  exact ⟨Kd.C_nil _ _, Nat.le_refl _⟩
theorem Sv.of_R {w : World} {e base : Nat} {ok : Nat → Prop} {v : Value} {xs : List Int} (h : Kd.R (Kd.int .i64) e w base ok v xs) : Sv w v xs := fun A n c ev => by
  subst ev
  have := Kd.R_reads' h
  exact ⟨this.2.2, by omega⟩
def sliceX : Kd (List Int × List Int) where
  sz := 1
  E := [2]
  K := fun w x cs => ∃ A c, cs = [.slice A x.1.length c] ∧ x.1.length ≤ c ∧ (Kd.int .i64).C w A x.1.length x.1 ∧ (Kd.int .i64).C w A x.2.length x.2 ∧ x.2.length ≤ c
  M := fun w base ok x cs => ∃ v, cs = [v] ∧ Kd.R (Kd.int .i64) 2 w base ok v x.1 ∧ Sv w v x.2
  K_len := by
    rintro w x cs ⟨A, c, rfl, _⟩
    rfl
  K_one := by
    rintro w x cs ⟨A, c, rfl, _⟩ u hu
    rw [List.mem_singleton.1 hu]
    rfl
  K_below := by
    rintro w w1 x cs hb ⟨A, c, rfl, hl, hr, hf, hg⟩
    exact ⟨A, c, rfl, hl, Kd.C_below hr hb, Kd.C_below hf hb, hg⟩
  K_of_M := by
    rintro w base ok x cs ⟨v, rfl, h, hs⟩
    obtain ⟨A, c, rfl, hl, hr⟩ := Kd.R_reads h
    exact ⟨A, c, rfl, hl, hr, (hs _ _ _ rfl).1, (hs _ _ _ rfl).2⟩
  M_mono := by
    rintro w base ok ok' x cs hok ⟨v, rfl, h, hs⟩
    exact ⟨v, rfl, Kd.R_mono h hok, hs⟩
  M_bound := by
    rintro w base ok x cs ⟨v, rfl, h, hs⟩
    exact ⟨v, rfl, Kd.R_bound h, hs⟩
  M_move := by
    rintro w w1 base ok x cs hm ⟨v, rfl, h, hs⟩
    exact ⟨v, rfl, Kd.R_move h hm, hs.moved (fun k hk => hm k (h.1 k hk))⟩
  M_lower := by
    rintro w base base' ok x cs hb ⟨v, rfl, h, hs⟩
    exact ⟨v, rfl, Kd.R_lower h hb, hs⟩
/-- A circuit and all that lies behind its row's head. -/
structure P26 where
  f0 : Int
  f1 : (List Int)
  f2 : (List Int)
def zP : P26 := ⟨(0 : Int), ([] : List Int), ([] : List Int)⟩
def pS (x : P26) : S26 := ⟨x.f0, x.f1⟩
def kP : Kd P26 := Kd.iso (Kd.pair (Kd.int .i64) sliceX) (fun x : P26 => (x.f0, (x.f1, x.f2)))
theorem kP_open {w : World} {x : P26} {cs : List Value} (h : kP.K w x cs) : ∃ A1 c1, cs = [.int .i64 x.f0, .slice A1 x.f1.length c1] ∧ x.f1.length ≤ c1 ∧ (Kd.int .i64).C w A1 x.f1.length x.f1 ∧ (Kd.int .i64).C w A1 x.f2.length x.f2 ∧ x.f2.length ≤ c1 := by
  obtain ⟨_, _, rfl, rfl, ⟨A1, c1, rfl, l1, g1, g2, g3⟩⟩ := h
  exact ⟨A1, c1, rfl, l1, g1, g2, g3⟩
theorem kP_openM {w : World} {base : Nat} {ok : Nat → Prop} {x : P26} {cs : List Value} (h : kP.M w base ok x cs) : ∃ v1, cs = [.int .i64 x.f0, v1] ∧ (Kd.int .i64).R 2 w base ok v1 x.f1 := by
  obtain ⟨_, _, rfl, rfl, ⟨v1, rfl, g1, _⟩⟩ := h
  exact ⟨v1, rfl, g1⟩
theorem kP_mkM (w : World) (base : Nat) (ok : Nat → Prop) (x : P26) {v1 : Value} (g1 : (Kd.int .i64).R 2 w base ok v1 x.f1) (g2 : Sv w v1 x.f2) : kP.M w base ok x [.int .i64 x.f0, v1] := ⟨[.int .i64 x.f0], [v1], rfl, rfl, ⟨v1, rfl, g1, g2⟩⟩
def rd_P (xs : List P26) (i : Int) : P26 := xs.getD i.toNat zP
theorem at_P {w : World} {A : Option Addr} {n : Nat} {xs : List P26} (h : Kd.C kP w A n xs) (i : Int) (h0 : 0 ≤ i) (h1 : i < n) : ∃ ad A1 c1, A = some ad ∧ w.cell? (ad.add (i.toNat * 2)) = some (.int .i64 (rd_P xs i).f0) ∧ w.cell? ⟨(ad.add (i.toNat * 2)).block, (ad.add (i.toNat * 2)).off + 1, none⟩ = some (.slice A1 (rd_P xs i).f1.length c1) ∧ (rd_P xs i).f2.length ≤ c1 ∧ (Kd.int .i64).C w A1 (rd_P xs i).f2.length (rd_P xs i).f2 := by
  obtain ⟨ad, c, e, _, hK, hc0⟩ := Kd.C_get h zP i h0 h1
  have hc : ∀ j u, c[j]? = some u → w.cell? (ad.add (i.toNat * 2 + j)) = some u := hc0
  obtain ⟨A1, c1, rfl, l1, g1, g2, g3⟩ := kP_open hK
  exact ⟨ad, A1, c1, e, hc 0 _ rfl, by rw [← add_field _ _ 1 (by omega)]; exact hc 1 _ rfl, g3, g2⟩
theorem kP_K {w : World} {x : P26} {cs : List Value} (h : kP.K w x cs) : k26.K w (pS x) cs := by
  obtain ⟨A1, c1, rfl, l1, g1, _⟩ := kP_open h
  exact k26_mk w (pS x) l1 g1
theorem kP_M {w : World} {base : Nat} {ok : Nat → Prop} {x : P26} {cs : List Value} (h : kP.M w base ok x cs) : k26.M w base ok (pS x) cs := by
  obtain ⟨v1, rfl, g1⟩ := kP_openM h
  exact k26_mkM w base ok (pS x) g1
theorem C_pS {w : World} {A : Option Addr} {n : Nat} {xs : List P26} (h : Kd.C kP w A n xs) : Kd.C k26 w A n (xs.map pS) :=
  ⟨ by rw [List.length_map]; exact h.1, h.2.1, fun hn => by
    obtain ⟨ad, e, hc⟩ := h.2.2 hn
    refine ⟨ad, e, fun j p hj => ?_⟩
    rw [List.getElem?_map] at hj
    obtain ⟨q, hq, rfl⟩ := Option.map_eq_some_iff.1 hj
    obtain ⟨c, hs, hr, hcell⟩ := hc j q hq
    exact ⟨c, hs, kP_K hr, hcell⟩⟩
theorem S_pS {e : Nat} {w : World} {base : Nat} {ok : Nat → Prop} {v : Value} {xs : List P26} (h : Kd.S kP e w base ok v xs) : Kd.S k26 e w base ok v (xs.map pS) := by
  obtain ⟨f, h0, inner, ho, hr⟩ := h
  refine ⟨f, h0, inner, ?_, ?_, fun j p hj => ?_⟩
  · rw [List.length_zipIdx] at ho ⊢
    rw [List.length_map]
    exact ho
  · have := hr.1
    rw [List.length_zipIdx] at this ⊢
    rw [List.length_map]
    exact this
  · rw [List.getElem?_zipIdx, List.getElem?_map] at hj
    obtain ⟨q, hq, rfl⟩ := Option.map_eq_some_iff.1 hj
    obtain ⟨y, hy, rfl⟩ := Option.map_eq_some_iff.1 hq
    have := hr.2 j (y, j) (Kd.zip_at hy)
    simp only [Nat.zero_add]
    exact kP_M this
theorem cut_mid_cap {P : Program} (t e : TypeId) (kl kh : IntKind) {i : TypeInfo} (ht : P.underlying t = some (.slice e)) (hi : P.info? e = some i) (size : Nat) (hsz : i.size = size) (A : Option Addr) (n c : Nat) (lo hi' : Int) (h0 : 0 ≤ lo) (h1 : lo ≤ hi') (h2 : hi' ≤ c) :
    ∀ W : World, (Instr.slice t (.slice A n c) (some (.int kl lo)) (some (.int kh hi')) none).run P W = .ok (.slice (if c = lo.toNat then A else A.map (·.add (lo.toNat * size))) (hi'.toNat - lo.toNat) (c - lo.toNat)) W := by
  intro W
  have hel : P.elem t = e := by simp [Program.elem, ht]
  have hu : P.underlying t = some (.slice (P.elem t)) := by rw [hel]; exact ht
  rw [run_slice_lh W t A n c hu kl kh lo hi' h0 h1 (by omega), hel]
  simp [sizeOf, typeInfo, hi, hsz, sliced, Result.andThen]
/-- What 'toCircuitS' leaves. -/
def ToPostC (n : Nat) (full : List P26) (w : World) (en : Ending) (w' : World) : Prop :=
  ∃ A c y, full.take n = y ∧ en = .returned (.slice A y.length c) ∧ Kd.S kP 26 w' w.heap.size (fun _ => True) (.slice A y.length c) y ∧ Sp kP w' A c full ∧ Below w.heap.size w w'
theorem w64c {n : Int} (h : -9223372036854775808 ≤ n ∧ n ≤ 9223372036854775807) : wrap64 n = n := by
  unfold wrap64
  omega
end Go.Proofs.Ytmahecjbejffoaa.PFnExactWorstPins
