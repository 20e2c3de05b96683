/- WalkFnExactRackNet of the law FnExactRackNet: taken over, declaration by declaration, as far as the law leans on it (the words and the printed functions are the kit's own print). No condition but what each says. -/
import Derived.Test.YtalcbcelalbhiaaZFnExactRackNetav
import Derived.Test.YtalcbcelalbhiaaZFnExactRackNetax
import Derived.Test.YtalcbcelalbhiaaZFnExactRackNetay
import Derived.Test.YtalcbcelalbhiaaZFnExactRackNetaz
import Derived.Test.YtalcbcelalbhiaaZFnExactRackNetba
import Derived.Test.YtalcbcelalbhiaaZFnExactRackNetbb
import Derived.Test.YtalcbcelalbhiaaZFnExactRackNetbc
import Derived.Test.YtalcbcelalbhiaaZFnExactRackNetbd
import Derived.Test.YtalcbcelalbhiaaZFnExactRackNetbe
import Derived.Test.YtalcbcelalbhiaaZFnExactRackNetbj
namespace Go.Proofs.Ytalcbcelalbhiaa.WalkFnExactRackNet
open Go.RowKit Go.Proofs.YtalcbcelalbhiaaW.PrintWords Go.Proofs.YtalcbcelalbhiaaW.PrintLast Go.Proofs.YtalcbcelalbhiaaW.PrintMore Go.Proofs.Ytalcbcelalbhiaa.Owned Go.Proofs.Ytalcbcelalbhiaa.Opening Go.Proofs.Ytalcbcelalbhiaa.PFnExactRackNet
open Go.Proofs.Ytalcbcelalbhiaa.Pure (w64 Ev_shift)
set_option linter.unusedVariables false
set_option linter.unusedSimpArgs false
theorem toF (b : Bool) (l0 : List S127) (hl : l0.length ≤ 1000000) : Ev (fun k => laws_toArticleS.f k l0 b) ((l0.map fun x => (⟨x.f0, x.f1, x.f2, x.f3, x.f4, x.f5, x.f6, x.f7, x.f8⟩ : S130))) := by
  refine ⟨2 * l0.length + 10, fun k hk => ?_⟩
  cases b with
  | true => exact laws_toArticleS_bare l0 hl k hk
  | false => show laws_toArticleS.f k l0 false = _; rw [laws_toArticleS_eq l0 false (.inl rfl) hl k hk, List.take_append_of_le_length (by simp), List.take_of_length_le (by simp)]
theorem toI (b : Bool) (l : List Int) (hl : l.length ≤ 1000000) : Ev (fun k => laws_toInt64S.f k l b) l := by
  refine ⟨2 * l.length + 10, fun k hk => ?_⟩
  cases b with
  | true => exact laws_toInt64S_bare l hl k hk
  | false => show laws_toInt64S.f k l false = _; rw [laws_toInt64S_eq l false (.inl rfl) hl k hk, List.take_append_of_le_length (by simp), List.take_of_length_le (by simp)]
theorem toS (b : Bool) (l : List ByteArray) (hl : l.length ≤ 1000000) : Ev (fun k => laws_toStringS.f k l b) l := by
  refine ⟨2 * l.length + 10, fun k hk => ?_⟩
  cases b with
  | true => exact laws_toStringS_bare l hl k hk
  | false => show laws_toStringS.f k l false = _; rw [laws_toStringS_eq l false (.inl rfl) hl k hk, List.take_append_of_le_length (by simp), List.take_of_length_le (by simp)]
theorem toR (b : Bool) (x y : Int) (t : List Int) (l : List ByteArray) (ht : t.length ≤ 1000000) (hl : l.length ≤ 1000000) : Ev (fun k => laws_toRack.f k x y t l b) (x, y, t, l) := by
  unfold laws_toRack.f
  exact Ev.bind (toI b t ht) (Ev.bind (toS b l hl) (Ev.now _))
theorem inF (l : List S130) : Ev (fun k => full_intactArticleS.f k l l) true := by
  unfold full_intactArticleS.f
  simp only [if_true]
  exact Ev.now _
theorem inR (x y : Int) (t : List Int) (l : List ByteArray) : Ev (fun k => full_intactRack.f k x y t l x y t l) true := by
  unfold full_intactRack.f full_intactInt64S.f full_intactStringS.f
  simp only [if_true, Option.bind_some]
  exact Ev.now _
theorem szA_l0 (l : List S127) (hl : l.length ≤ 1000000) (hq : ∀ x ∈ l, x.f0.size ≤ 140737488351232) : ∀ (d : Nat) (a i : Int), 0 ≤ a → a ≤ 1000000 → 0 ≤ i → i + d = l.length → ∃ s, s ≤ 1000000 ∧ Ev (fun k => laws_szArticleS.l0 k l a i) s
  | 0, a, i, a0, a1, i0, hd => by
    refine ⟨a, a1, Ev_shift ?_⟩
    simp only [laws_szArticleS.l0, if_neg (show ¬ i < (l.length : Int) by omega)]
    exact Ev.now _
  | d + 1, a, i, a0, a1, i0, hd => by
    have hm : (rd_T127 l i).f0.size ≤ 140737488351232 := hq _ (by
      show l.getD _ _ ∈ l
      rw [List.getD_eq_getElem?_getD, List.getElem?_eq_getElem (by omega)]
      exact List.getElem_mem _)
    by_cases c : a - ((rd_T127 l i).f0.size : Int) < 0
    · refine ⟨-1, by omega, Ev_shift ?_⟩
      simp only [laws_szArticleS.l0, if_pos (show i < (l.length : Int) by omega), if_pos i0, laws_szArticle.f, w64 (n := a - ((rd_T127 l i).f0.size : Int)) (by omega), if_pos c, Option.bind_some, if_pos (show (-1 : Int) < 0 by decide)]
      exact Ev.now _
    · obtain ⟨s, hs, e⟩ := szA_l0 l hl hq d (a - ((rd_T127 l i).f0.size : Int)) (i + 1) (by omega) (by omega) (by omega) (by omega)
      refine ⟨s, hs, Ev_shift ?_⟩
      simp only [laws_szArticleS.l0, if_pos (show i < (l.length : Int) by omega), if_pos i0, laws_szArticle.f, w64 (n := a - ((rd_T127 l i).f0.size : Int)) (by omega), if_neg c, Option.bind_some, w64 (n := i + 1) (by omega)]
      exact e
theorem szA (l : List S127) (hm : l.length ≤ 140737488351232) (hq : ∀ x ∈ l, x.f0.size ≤ 140737488351232) : ∃ s, Ev (fun k => laws_szArticleS.f k l 1000000) s ∧ s ≤ 1000000 ∧ (¬ s < 0 → l.length ≤ 1000000) := by
  by_cases c : (1000000 : Int) - (l.length : Int) < 0
  · refine ⟨-1, ?_, by omega, fun h => absurd (by decide) h⟩
    simp only [laws_szArticleS.f, w64 (n := (1000000 : Int) - (l.length : Int)) (by omega), if_pos c]
    exact Ev.now _
  · obtain ⟨s, hs, e⟩ := szA_l0 l (by omega) hq l.length (1000000 - (l.length : Int)) 0 (by omega) (by omega) (by omega) (by omega)
    refine ⟨s, ?_, hs, fun _ => by omega⟩
    simp only [laws_szArticleS.f, w64 (n := (1000000 : Int) - (l.length : Int)) (by omega), if_neg c]
    exact e
theorem szS_l0 (l : List ByteArray) (hl : l.length ≤ 1000000) (hq : ∀ x ∈ l, x.size ≤ 140737488351232) : ∀ (d : Nat) (a i : Int), 0 ≤ a → a ≤ 1000000 → 0 ≤ i → i + d = l.length → ∃ s, Ev (fun k => laws_szStringS.l0 k l a i) s
  | 0, a, i, a0, a1, i0, hd => by
    refine ⟨a, Ev_shift ?_⟩
    simp only [laws_szStringS.l0, if_neg (show ¬ i < (l.length : Int) by omega)]
    exact Ev.now _
  | d + 1, a, i, a0, a1, i0, hd => by
    have hm : (rdOf ByteArray.empty l i).size ≤ 140737488351232 := hq _ (by
      show l.getD _ _ ∈ l
      rw [List.getD_eq_getElem?_getD, List.getElem?_eq_getElem (by omega)]
      exact List.getElem_mem _)
    by_cases c : a - ((rdOf ByteArray.empty l i).size : Int) < 0
    · refine ⟨-1, Ev_shift ?_⟩
      simp only [laws_szStringS.l0, if_pos (show i < (l.length : Int) by omega), if_pos i0, w64 (n := a - ((rdOf ByteArray.empty l i).size : Int)) (by omega), if_pos c]
      exact Ev.now _
    · obtain ⟨s, e⟩ := szS_l0 l hl hq d (a - ((rdOf ByteArray.empty l i).size : Int)) (i + 1) (by omega) (by omega) (by omega) (by omega)
      refine ⟨s, Ev_shift ?_⟩
      simp only [laws_szStringS.l0, if_pos (show i < (l.length : Int) by omega), if_pos i0, w64 (n := a - ((rdOf ByteArray.empty l i).size : Int)) (by omega), if_neg c, w64 (n := i + 1) (by omega)]
      exact e
theorem szR (x y : Int) (t : List Int) (l : List ByteArray) (ht : t.length ≤ 140737488351232) (hl : l.length ≤ 140737488351232) (hq : ∀ z ∈ l, z.size ≤ 140737488351232) (a : Int) (a0 : ¬ a < 0) (a1 : a ≤ 1000000) : ∃ s, Ev (fun k => laws_szRack.f k x y t l a) s ∧ (¬ s < 0 → t.length ≤ 1000000 ∧ l.length ≤ 1000000) := by
  by_cases c : a - (t.length : Int) < 0
  · refine ⟨-1, ?_, fun h => absurd (by decide) h⟩
    simp only [laws_szRack.f, laws_szInt64S.f, w64 (n := a - (t.length : Int)) (by omega), if_pos c, Option.bind_some, if_pos (show (-1 : Int) < 0 by decide)]
    exact Ev.now _
  · by_cases c2 : a - (t.length : Int) - (l.length : Int) < 0
    · refine ⟨-1, ?_, fun h => absurd (by decide) h⟩
      simp only [laws_szRack.f, laws_szInt64S.f, laws_szStringS.f, w64 (n := a - (t.length : Int)) (by omega), if_neg c, Option.bind_some, w64 (n := a - (t.length : Int) - (l.length : Int)) (by omega), if_pos c2, if_pos (show (-1 : Int) < 0 by decide)]
      exact Ev.now _
    · obtain ⟨s, e⟩ := szS_l0 l (by omega) hq l.length (a - (t.length : Int) - (l.length : Int)) 0 (by omega) (by omega) (by omega) (by omega)
      refine ⟨if s < 0 then -1 else s, ?_, fun _ => by omega⟩
      simp only [laws_szRack.f, laws_szInt64S.f, laws_szStringS.f, w64 (n := a - (t.length : Int)) (by omega), if_neg c, Option.bind_some, w64 (n := a - (t.length : Int) - (l.length : Int)) (by omega), if_neg c2]
      refine Ev.bind e ?_
      by_cases g : s < 0
      · simp only [if_pos g]
        exact Ev.now _
      · simp only [if_neg g]
        exact Ev.now _
theorem szA_up {k : Nat} {l : List S127} {a s : Int} (h : laws_szArticleS.f k l a = some s) : ∀ d, laws_szArticleS.f (k + d) l a = some s
  | 0 => h
  | d + 1 => laws_szArticleS.mono l a (k + d) s (szA_up h d)
theorem szR_up {k : Nat} {x y : Int} {t : List Int} {l : List ByteArray} {a s : Int} (h : laws_szRack.f k x y t l a = some s) : ∀ d, laws_szRack.f (k + d) x y t l a = some s
  | 0 => h
  | d + 1 => laws_szRack.mono x y t l a (k + d) s (szR_up h d)
theorem true_ (l0 : List S127) (a1_0 a1_1 : Int) (l1_2 : List Int) (l1_3 : List ByteArray) (m0 : l0.length ≤ 140737488351232) (z0 : ∀ x ∈ l0, x.f0.size ≤ 140737488351232) (m2 : l1_2.length ≤ 140737488351232) (m3 : l1_3.length ≤ 140737488351232) (z3 : ∀ x ∈ l1_3, x.size ≤ 140737488351232) : Ev (fun k => full_FnExactRackNet.f k l0 a1_0 a1_1 l1_2 l1_3) true := by
  obtain ⟨s, es, s1, s2⟩ := szA l0 m0 z0
  unfold full_FnExactRackNet.f
  refine Ev.bind es ?_
  by_cases c : s < 0
  · simp only [if_pos c]
    exact Ev.now _
  · simp only [if_neg c]
    obtain ⟨u, eu, u2⟩ := szR a1_0 a1_1 l1_2 l1_3 m2 m3 z3 s c s1
    refine Ev.bind eu ?_
    by_cases c2 : u < 0
    · simp only [if_pos c2]
      exact Ev.now _
    · simp only [if_neg c2]
      have hl := s2 c
      have ht := (u2 c2).1
      have hs := (u2 c2).2
      obtain ⟨K0, r1, r2, hag⟩ := Pure.agree_RackNet ((l0.map fun x => (⟨x.f0, x.f1, x.f2, x.f3, x.f4, x.f5, x.f6, x.f7, x.f8⟩ : S130))) a1_0 a1_1 l1_2 l1_3 (by simpa using hl) (by simpa using z0) ht hs
      have es : Ev (fun k => spec_RackNet.f k ((l0.map fun x => (⟨x.f0, x.f1, x.f2, x.f3, x.f4, x.f5, x.f6, x.f7, x.f8⟩ : S130))) a1_0 a1_1 l1_2 l1_3) (r1, r2) := ⟨K0, fun k hk => (hag k hk).1⟩
      have ei : Ev (fun k => impl_RackNet.f k ((l0.map fun x => (⟨x.f0, x.f1, x.f2, x.f3, x.f4, x.f5, x.f6, x.f7, x.f8⟩ : S130))) a1_0 a1_1 l1_2 l1_3) (r1, r2) := ⟨K0, fun k hk => (hag k hk).2⟩
      repeat (first | exact Ev.now _ | refine Ev.bind (toF _ l0 hl) ?_ | refine Ev.bind (toR _ a1_0 a1_1 l1_2 l1_3 ht hs) ?_ | refine Ev.bind es ?_ | refine Ev.bind ei ?_ | refine Ev.bind (inF _) ?_ | refine Ev.bind (inR _ _ _ _) ?_ | (simp only [Option.bind_some, bne_self_eq_false, if_true, if_false, Bool.false_eq_true, reduceIte]) | (refine Ev_shift ?_; simp only [full_FnExactRackNet.j0, Option.bind_some, bne_self_eq_false, if_true, if_false, Bool.false_eq_true]))
theorem walk (A0 : Option Addr) (c0 : Nat) (l0 : (List S127)) (a1_0 : Int) (a1_1 : Int) (A1_2 : Option Addr) (c1_2 : Nat) (l1_2 : (List Int)) (A1_3 : Option Addr) (c1_3 : Nat) (l1_3 : (List ByteArray)) (w : World) (hc0 : l0.length ≤ c0) (hr0 : Kd.C k127 w A0 l0.length l0) (q0 : (l0.length * 80 ≤ 140737488351232 ∧ ∀ x ∈ l0, (x.f0.size ≤ 140737488351232 ∧ I64 x.f1 ∧ I64 x.f2 ∧ I64 x.f3 ∧ I64 x.f4 ∧ I64 x.f5 ∧ I64 x.f6 ∧ I64 x.f7 ∧ I64 x.f8))) (hc1_2 : l1_2.length ≤ c1_2) (hr1_2 : Kd.C (Kd.int .i64) w A1_2 l1_2.length l1_2) (hc1_3 : l1_3.length ≤ c1_3) (hr1_3 : Kd.C Kd.string w A1_3 l1_3.length l1_3) (q1 : (I64 a1_0 ∧ I64 a1_1 ∧ (l1_2.length * 8 ≤ 140737488351232 ∧ ∀ x ∈ l1_2, I64 x) ∧ (l1_3.length * 16 ≤ 140737488351232 ∧ ∀ x ∈ l1_3, x.size ≤ 140737488351232))) :
    Calls Try.prog 7 #[.slice A0 l0.length c0, .agg #[.int .i64 a1_0, .int .i64 a1_1, .slice A1_2 l1_2.length c1_2, .slice A1_3 l1_3.length c1_3]] w fun e w' => e = .returned (.bool true) ∧ Below w.heap.size w w' := by
  have m0 : l0.length ≤ 140737488351232 := by have := q0.1; omega
  have z0 : ∀ x ∈ l0, x.f0.size ≤ 140737488351232 := fun x hx => (q0.2 x hx).1
  have m2 : l1_2.length ≤ 140737488351232 := by have := q1.2.2.1.1; omega
  have m3 : l1_3.length ≤ 140737488351232 := by have := q1.2.2.2.1; omega
  have z3 : ∀ x ∈ l1_3, x.size ≤ 140737488351232 := fun x hx => q1.2.2.2.2 x hx
  obtain ⟨K, h⟩ := true_ l0 a1_0 a1_1 l1_2 l1_3 m0 z0 m2 m3 z3
  refine (full_FnExactRackNet.calls K A0 c0 l0 a1_0 a1_1 A1_2 c1_2 l1_2 A1_3 c1_3 l1_3 true w ?_ hr0 hc0 hr1_2 hc1_2 hr1_3 hc1_3 (h K (Nat.le_refl _)) rfl).mono ?_
  · intro t s h1 h2 h3 h4
    obtain ⟨s', ⟨K1, e1⟩, b1, b2⟩ := szA l0 m0 z0
    have g1 : laws_szArticleS.f (K + K1) l0 1000000 = some s' := e1 (K + K1) (by omega)
    rw [szA_up h1 K1] at g1
    injection g1 with g1
    subst g1
    obtain ⟨u', ⟨K2, e2⟩, d2⟩ := szR a1_0 a1_1 l1_2 l1_3 m2 m3 z3 t h2 b1
    have g2 : laws_szRack.f (K + K2) a1_0 a1_1 l1_2 l1_3 t = some u' := e2 (K + K2) (by omega)
    rw [szR_up h3 K2] at g2
    injection g2 with g2
    subst g2
    exact ⟨b2 h2, (d2 h4).1, (d2 h4).2⟩
  · rintro e w' ⟨rfl, hd⟩
    exact ⟨rfl, hd⟩
end Go.Proofs.Ytalcbcelalbhiaa.WalkFnExactRackNet
