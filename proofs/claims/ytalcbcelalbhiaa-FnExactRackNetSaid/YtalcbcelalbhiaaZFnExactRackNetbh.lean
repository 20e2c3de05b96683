/- PureFnExactRackNet of the law FnExactRackNet: taken over, declaration by declaration, as far as the law leans on it (the words and the printed functions are the kit's own print). No condition but what each says. -/
import Derived.Test.YtalcbcelalbhiaaZFnExactRackNetav
import Derived.Test.YtalcbcelalbhiaaZFnExactRackNetax
import Derived.Test.YtalcbcelalbhiaaZFnExactRackNetay
import Derived.Test.YtalcbcelalbhiaaZFnExactRackNetaz
import Derived.Test.YtalcbcelalbhiaaZFnExactRackNetba
import Derived.Test.YtalcbcelalbhiaaZFnExactRackNetbb
import Derived.Test.YtalcbcelalbhiaaZFnExactRackNetbc
import Derived.Test.YtalcbcelalbhiaaZFnExactRackNetbd
import Derived.Test.YtalcbcelalbhiaaZFnExactRackNetbe
import Derived.Test.YtalcbcelalbhiaaZFnExactRackNetbf
namespace Go.Proofs.Ytalcbcelalbhiaa.Pure
open Go.RowKit Go.Proofs.Ytalcbcelalbhiaa.PFnExactRackNet Go.Proofs.YtalcbcelalbhiaaW.PrintWords Go.Proofs.YtalcbcelalbhiaaW.PrintLast Go.Proofs.Ytalcbcelalbhiaa.Opening
set_option linter.unusedVariables false
set_option linter.unusedSimpArgs false
theorem w64 {n : Int} (h : -9223372036854775808 ≤ n ∧ n ≤ 9223372036854775807) : wrap64 n = n := by
  unfold wrap64
  omega
theorem dec_and {p q : Prop} [Decidable p] [Decidable q] : (if decide p = true then some (decide q) else some false) = some (decide (p ∧ q)) := by
  by_cases h : p <;> simp [h]
theorem l01In_eq (a b c : Int) : spec_l01In.f a b c = some (decide (b ≤ a ∧ a ≤ c)) := by
  unfold spec_l01In.f
  by_cases h : b ≤ a <;> simp [h]
theorem within_eq (a b c : Int) : impl_within.f a b c = some (decide (b ≤ a ∧ a ≤ c)) := by
  unfold impl_within.f
  by_cases h : b ≤ a <;> simp [h]
theorem drop_cons {α : Type} {l : List α} {i : Int} {a : α} {s : List α} (z : α) (h0 : 0 ≤ i) (h : l.drop i.toNat = a :: s) : i < l.length ∧ l.getD i.toNat z = a ∧ l.drop (i + 1).toNat = s := by
  have hlt : i.toNat < l.length := by
    rcases Nat.lt_or_ge i.toNat l.length with h1 | h1
    · exact h1
    · rw [List.drop_eq_nil_of_le h1] at h; cases h
  rw [List.drop_eq_getElem_cons hlt] at h
  injection h with h1 h2
  refine ⟨by omega, ?_, ?_⟩
  · rw [List.getD_eq_getElem?_getD, List.getElem?_eq_getElem hlt]; exact h1
  · rw [show (i + 1).toNat = i.toNat + 1 by omega]; exact h2
theorem drop_nil {α : Type} {l : List α} {i : Int} (h0 : 0 ≤ i) (h : l.drop i.toNat = []) : ¬ i < (l.length : Int) := by
  have := List.drop_eq_nil_iff.1 h
  omega
theorem Ev_shift {α : Type} {g : Nat → Option α} {r : α} (h : Ev (fun k => g (k + 1)) r) : Ev g r := Ev.step (fun _ => rfl) h
theorem Ev_both {α β : Type} {g : Nat → Option α} {f : Nat → Option β} {r : α} {q : β} (h1 : Ev g r) (h2 : Ev f q) : ∃ K, ∀ k, K ≤ k → g k = some r ∧ f k = some q := by
  obtain ⟨K, h1⟩ := h1
  obtain ⟨K', h2⟩ := h2
  exact ⟨max K K', fun k hk => ⟨h1 k (by omega), h2 k (by omega)⟩⟩
theorem Ev_eq {α : Type} {g : Nat → Option α} {r q : α} (h : Ev g r) (e : r = q) : Ev g q := e ▸ h
theorem Ev_some {α : Type} {r q : α} (e : r = q) : Ev (fun _ => some r) q := e ▸ Ev.now r
noncomputable def tt (p : Prop) : Bool := @decide p (Classical.propDecidable p)
theorem tt_pos {p : Prop} (h : p) : tt p = true := by unfold tt; exact @decide_eq_true p (Classical.propDecidable p) h
theorem tt_neg {p : Prop} (h : ¬ p) : tt p = false := by unfold tt; exact @decide_eq_false p (Classical.propDecidable p) h
theorem tt_dec (p : Prop) [i : Decidable p] : tt p = decide p := by
  by_cases h : p
  · rw [tt_pos h, decide_eq_true h]
  · rw [tt_neg h, decide_eq_false h]
theorem tt_iff {p q : Prop} (h : p ↔ q) : tt p = tt q := by rw [propext h]
theorem tt_and (p q : Prop) : (tt p && tt q) = tt (p ∧ q) := by
  by_cases h : p
  · rw [tt_pos h, Bool.true_and]; exact tt_iff ⟨fun x => ⟨h, x⟩, fun x => x.2⟩
  · rw [tt_neg h, Bool.false_and, tt_neg (fun x => h x.1)]
theorem ev_all {L : Int → Nat → Option Bool} {P : Int → Prop} {n : Int} {fin : Bool} (h1 : ∀ i, 0 ≤ i → i < n → P i → ∀ r, Ev (L (i + 1)) r → Ev (L i) r) (h2 : ∀ i, 0 ≤ i → i < n → ¬ P i → Ev (L i) false) (h3 : Ev (L n) fin) :
    ∀ (d : Nat) (i : Int), 0 ≤ i → i + d = n → Ev (L i) (fin && tt (∀ j, i ≤ j → j < n → P j))
  | 0, i, h0, hd => by
    have e : i = n := by omega
    rw [e, tt_pos (fun j h1 h2 => by omega), Bool.and_true]
    exact h3
  | d + 1, i, h0, hd => by
    by_cases hp : P i
    · have := h1 i h0 (by omega) hp _ (ev_all h1 h2 h3 d (i + 1) (by omega) (by omega))
      refine Ev_eq this ?_
      congr 1
      exact tt_iff ⟨fun h j h1 h2 => by
        by_cases e : j = i
        · rw [e]; exact hp
        · exact h j (by omega) h2, fun h j h1 h2 => h j (by omega) h2⟩
    · rw [tt_neg (fun h => hp (h i (Int.le_refl _) (by omega))), Bool.and_false]
      exact h2 i h0 (by omega) hp
def PPlace (x y : Int) : Prop := 0 ≤ x ∧ x ≤ 100000 ∧ 0 ≤ y ∧ y ≤ 100000
instance (x y : Int) : Decidable (PPlace x y) := by unfold PPlace; infer_instance
theorem spec_place_eq (x y : Int) : spec_l15Place.f x y = some (decide (PPlace x y)) := by
  unfold spec_l15Place.f PPlace
  simp only [l01In_eq, Option.bind_some]
  rw [dec_and]
  congr 2
  exact propext ⟨fun h => by omega, fun h => by omega⟩
theorem impl_place_eq (x y : Int) : impl_isPlace.f x y = some (decide (PPlace x y)) := by
  unfold impl_isPlace.f PPlace
  simp only [within_eq, Option.bind_some]
  rw [dec_and]
  congr 2
  exact propext ⟨fun h => by omega, fun h => by omega⟩
def PWord (s : ByteArray) : Prop := (∀ j : Int, 0 ≤ j → j < (s.size : Int) → 97 ≤ bt s j ∧ bt s j ≤ 122) ∧ 1 ≤ (s.size : Int) ∧ (s.size : Int) ≤ 16
theorem spec_word_ev (s : ByteArray) (hs : s.size ≤ 140737488351232) : Ev (fun k => spec_IsWord.f k s) (tt (PWord s)) := by
  unfold spec_IsWord.f
  have h := ev_all (L := fun i k => spec_IsWord.l0 k s i) (P := fun j => 97 ≤ bt s j ∧ bt s j ≤ 122) (n := (s.size : Int)) (fin := decide (1 ≤ (s.size : Int) ∧ (s.size : Int) ≤ 16)) (fun i i0 i1 hp r hr => by
    refine Ev_shift ?_
    simp only [spec_IsWord.l0, if_pos i1, if_pos i0, if_neg (show ¬ bt s i < 97 by omega), if_neg (show ¬ bt s i > 122 by omega), w64 (n := i + 1) (by omega)]
    exact hr) (fun i i0 i1 hp => by
    refine Ev_shift ?_
    by_cases c : bt s i < 97
    · simp only [spec_IsWord.l0, if_pos i1, if_pos i0, if_pos c]
      exact Ev.now _
    · simp only [spec_IsWord.l0, if_pos i1, if_pos i0, if_neg c, if_pos (show bt s i > 122 by omega)]
      exact Ev.now _) (by
    refine Ev_shift ?_
    simp only [spec_IsWord.l0, if_neg (show ¬ (s.size : Int) < (s.size : Int) by omega), l01In_eq, Option.bind_some]
    exact Ev.now _) s.size 0 (by omega) (by omega)
  refine Ev_eq h ?_
  rw [← tt_dec, tt_and]
  exact tt_iff ⟨fun h => ⟨h.2, h.1⟩, fun h => ⟨h.2, h.1⟩⟩
theorem impl_word_ev (s : ByteArray) (hs : s.size ≤ 140737488351232) : Ev (fun k => impl_IsWord.f k s) (tt (PWord s)) := by
  unfold impl_IsWord.f
  by_cases c1 : (s.size : Int) < 1
  · simp only [if_pos c1]
    rw [tt_neg (fun h : PWord s => by have := h.2; omega)]
    refine Ev_shift ?_
    simp only [impl_IsWord.j0, if_true]
    exact Ev.now _
  · simp only [if_neg c1]
    by_cases c2 : (s.size : Int) > 16
    · rw [tt_neg (fun h : PWord s => by have := h.2; omega), decide_eq_true c2]
      refine Ev_shift ?_
      simp only [impl_IsWord.j0, if_true]
      exact Ev.now _
    · rw [decide_eq_false c2]
      refine Ev_shift ?_
      simp only [impl_IsWord.j0, Bool.false_eq_true, if_false]
      have h := ev_all (L := fun i k => impl_IsWord.l0 k s i) (P := fun j => 97 ≤ bt s j ∧ bt s j ≤ 122) (n := (s.size : Int)) (fin := true) (fun i i0 i1 hp r hr => by
        refine Ev_shift ?_
        simp only [impl_IsWord.l0, if_pos i1, if_pos i0, if_neg (show ¬ bt s i < 97 by omega), if_neg (show ¬ bt s i > 122 by omega), w64 (n := i + 1) (by omega)]
        exact hr) (fun i i0 i1 hp => by
        refine Ev_shift ?_
        by_cases c : bt s i < 97
        · simp only [impl_IsWord.l0, if_pos i1, if_pos i0, if_pos c]
          exact Ev.now _
        · simp only [impl_IsWord.l0, if_pos i1, if_pos i0, if_neg c, if_pos (show bt s i > 122 by omega)]
          exact Ev.now _) (by
        refine Ev_shift ?_
        simp only [impl_IsWord.l0, if_neg (show ¬ (s.size : Int) < (s.size : Int) by omega)]
        exact Ev.now _) s.size 0 (by omega) (by omega)
      refine Ev_eq h ?_
      rw [Bool.true_and]
      exact tt_iff ⟨fun h => ⟨h, by omega, by omega⟩, fun h => h.1⟩
def PArt (a : S130) : Prop := PWord a.f0 ∧ (0 ≤ a.f1 ∧ a.f1 ≤ 3) ∧ (20 ≤ a.f2 ∧ a.f2 ≤ 300) ∧ (0 ≤ a.f3 ∧ a.f3 ≤ 10000) ∧ (0 ≤ a.f4 ∧ a.f4 ≤ a.f3) ∧ (1 ≤ a.f5 ∧ a.f5 ≤ 50) ∧ (0 ≤ a.f6 ∧ a.f6 ≤ 10000) ∧ (1 ≤ a.f7 ∧ a.f7 ≤ 100000) ∧ (0 ≤ a.f8 ∧ a.f8 ≤ 3)
theorem spec_art_ev (a : S130) (hs : a.f0.size ≤ 140737488351232) : Ev (fun k => spec_IsArticle.f k a.f0 a.f1 a.f2 a.f3 a.f4 a.f5 a.f6 a.f7 a.f8) (tt (PArt a)) := by
  unfold spec_IsArticle.f PArt
  refine Ev.bind (spec_word_ev a.f0 hs) ?_
  by_cases h : PWord a.f0
  · simp only [tt_pos h, if_true, l01In_eq, Option.bind_some, dec_and]
    refine Ev_some ?_
    rw [← tt_dec]
    exact tt_iff ⟨fun g => ⟨h, g⟩, fun g => g.2⟩
  · simp only [tt_neg h, Bool.false_eq_true, if_false]
    rw [tt_neg (fun g => h g.1)]
    exact Ev.now _
theorem impl_art_ev (a : S130) (hs : a.f0.size ≤ 140737488351232) : Ev (fun k => impl_IsArticle.f k a.f0 a.f1 a.f2 a.f3 a.f4 a.f5 a.f6 a.f7 a.f8) (tt (PArt a)) := by
  unfold impl_IsArticle.f PArt
  refine Ev.bind (impl_word_ev a.f0 hs) ?_
  by_cases h : PWord a.f0
  · simp only [tt_pos h, if_true, within_eq, Option.bind_some, dec_and]
    refine Ev_some ?_
    rw [← tt_dec]
    exact tt_iff ⟨fun g => ⟨h, g⟩, fun g => g.2⟩
  · simp only [tt_neg h, Bool.false_eq_true, if_false]
    rw [tt_neg (fun g => h g.1)]
    exact Ev.now _
def PA (l : List S130) (j : Int) : Prop := PArt (rd_T130 l j) ∧ (0 < j → Op.bytesLess (rd_T130 l (j - 1)).f0.toList (rd_T130 l j).f0.toList = true)
def PArts (l : List S130) : Prop := (l.length : Int) ≤ 12 ∧ ∀ j : Int, 0 ≤ j → j < (l.length : Int) → PA l j
theorem rdA_mem (l : List S130) (i : Int) (h0 : 0 ≤ i) (h1 : i < (l.length : Int)) : rd_T130 l i ∈ l := by
  show l.getD _ _ ∈ l
  rw [List.getD_eq_getElem?_getD, List.getElem?_eq_getElem (by omega)]
  exact List.getElem_mem _
theorem spec_arts_ev (l : List S130) (hn : l.length ≤ 1000000) (hz : ∀ x ∈ l, x.f0.size ≤ 140737488351232) : Ev (fun k => spec_AreArticles.f k l) (tt (PArts l)) := by
  unfold spec_AreArticles.f
  have h := ev_all (L := fun i k => spec_AreArticles.l0 k l i) (P := PA l) (n := (l.length : Int)) (fin := decide ((l.length : Int) ≤ 12)) (fun i i0 i1 hp r hr => by
    refine Ev_shift ?_
    have ha := spec_art_ev (rd_T130 l i) (hz _ (rdA_mem l i i0 i1))
    rw [tt_pos hp.1] at ha
    simp only [spec_AreArticles.l0, if_pos i1, if_pos i0]
    refine Ev.bind ha ?_
    simp only [if_true, w64 (n := i + 1) (by omega), w64 (n := i - 1) (by omega)]
    by_cases c : i > 0
    · simp only [if_pos c, if_pos (show 0 ≤ i - 1 by omega), if_pos (show i - 1 < (l.length : Int) by omega), if_pos (hp.2 c)]
      exact hr
    · simp only [if_neg c]
      exact hr) (fun i i0 i1 hp => by
    refine Ev_shift ?_
    have ha := spec_art_ev (rd_T130 l i) (hz _ (rdA_mem l i i0 i1))
    simp only [spec_AreArticles.l0, if_pos i1, if_pos i0]
    refine Ev.bind ha ?_
    by_cases g : PArt (rd_T130 l i)
    · have c : i > 0 := by
        rcases Int.lt_or_le 0 i with c | c
        · exact c
        · exact absurd ⟨g, fun x => by omega⟩ hp
      have c2 : ¬ Op.bytesLess (rd_T130 l (i - 1)).f0.toList (rd_T130 l i).f0.toList = true := fun x => hp ⟨g, fun _ => x⟩
      simp only [tt_pos g, if_true, w64 (n := i + 1) (by omega), w64 (n := i - 1) (by omega), if_pos c, if_pos (show 0 ≤ i - 1 by omega), if_pos (show i - 1 < (l.length : Int) by omega), if_neg c2]
      exact Ev.now _
    · simp only [tt_neg g, Bool.false_eq_true, if_false]
      exact Ev.now _) (by
    refine Ev_shift ?_
    simp only [spec_AreArticles.l0, if_neg (show ¬ (l.length : Int) < (l.length : Int) by omega)]
    exact Ev.now _) l.length 0 (by omega) (by omega)
  refine Ev_eq h ?_
  rw [← tt_dec, tt_and]
  exact tt_iff Iff.rfl
theorem impl_arts_ev (l : List S130) (hn : l.length ≤ 1000000) (hz : ∀ x ∈ l, x.f0.size ≤ 140737488351232) : Ev (fun k => impl_AreArticles.f k l) (tt (PArts l)) := by
  unfold impl_AreArticles.f
  by_cases c12 : (l.length : Int) > 12
  · simp only [if_pos c12]
    rw [tt_neg (fun h : PArts l => by have := h.1; omega)]
    exact Ev.now _
  · simp only [if_neg c12]
    have h := ev_all (L := fun i k => impl_AreArticles.l0 k l l (l.length : Int) i) (P := PA l) (n := (l.length : Int)) (fin := true) (fun i i0 i1 hp r hr => by
      refine Ev_shift ?_
      have ha := impl_art_ev (rd_T130 l i) (hz _ (rdA_mem l i i0 i1))
      rw [tt_pos hp.1] at ha
      simp only [impl_AreArticles.l0, if_pos i1, if_pos i0]
      refine Ev.bind ha ?_
      simp only [if_true, w64 (n := i + 1) (by omega), w64 (n := i - 1) (by omega)]
      by_cases c : i > 0
      · simp only [if_pos c, if_pos (show 0 ≤ i - 1 by omega), if_pos (show i - 1 < (l.length : Int) by omega), if_pos (hp.2 c)]
        exact hr
      · simp only [if_neg c]
        exact hr) (fun i i0 i1 hp => by
      refine Ev_shift ?_
      have ha := impl_art_ev (rd_T130 l i) (hz _ (rdA_mem l i i0 i1))
      simp only [impl_AreArticles.l0, if_pos i1, if_pos i0]
      refine Ev.bind ha ?_
      by_cases g : PArt (rd_T130 l i)
      · have c : i > 0 := by
          rcases Int.lt_or_le 0 i with c | c
          · exact c
          · exact absurd ⟨g, fun x => by omega⟩ hp
        have c2 : ¬ Op.bytesLess (rd_T130 l (i - 1)).f0.toList (rd_T130 l i).f0.toList = true := fun x => hp ⟨g, fun _ => x⟩
        simp only [tt_pos g, if_true, w64 (n := i + 1) (by omega), w64 (n := i - 1) (by omega), if_pos c, if_pos (show 0 ≤ i - 1 by omega), if_pos (show i - 1 < (l.length : Int) by omega), if_neg c2]
        exact Ev.now _
      · simp only [tt_neg g, Bool.false_eq_true, if_false]
        exact Ev.now _) (by
      refine Ev_shift ?_
      simp only [impl_AreArticles.l0, if_neg (show ¬ (l.length : Int) < (l.length : Int) by omega)]
      exact Ev.now _) l.length 0 (by omega) (by omega)
    refine Ev_eq h ?_
    rw [Bool.true_and]
    exact tt_iff ⟨fun h => ⟨by omega, h⟩, fun h => h.2⟩
/-- The index of the article with a code, or -1. -/
def findA (c : ByteArray) : List S130 → Int → Int
  | [], _ => -1
  | a :: s, i => if a.f0.toList = c.toList then i else findA c s (i + 1)
theorem findA_rng (c : ByteArray) : ∀ (s : List S130) (i : Int), 0 ≤ i → findA c s i = -1 ∨ 0 ≤ findA c s i ∧ findA c s i < i + (s.length : Int)
  | [], i, _ => .inl rfl
  | a :: s, i, h => by
    unfold findA
    split
    · right
      simp only [List.length_cons]
      omega
    · rcases findA_rng c s (i + 1) (by omega) with e | e
      · exact .inl e
      · right
        simp only [List.length_cons]
        omega
theorem spec_findA_l0 (l : List S130) (hn : l.length ≤ 1000000) (c : ByteArray) : ∀ (s : List S130) (i : Int), 0 ≤ i → l.drop i.toNat = s → Ev (fun k => spec_l03Find.l0 k l c i) (findA c s i)
  | [], i, h0, hs => by
    refine Ev_shift ?_
    simp only [spec_l03Find.l0, if_neg (drop_nil h0 hs), findA]
    exact Ev.now _
  | a :: s, i, h0, hs => by
    obtain ⟨h1, h2, h3⟩ := drop_cons z130 h0 hs
    have h2' : rd_T130 l i = a := h2
    refine Ev_shift ?_
    by_cases g : a.f0.toList = c.toList
    · simp only [spec_l03Find.l0, if_pos h1, if_pos h0, h2', if_pos g, findA]
      exact Ev.now _
    · simp only [spec_l03Find.l0, if_pos h1, if_pos h0, h2', if_neg g, findA, w64 (n := i + 1) (by omega)]
      exact spec_findA_l0 l hn c s (i + 1) (by omega) h3
theorem impl_findA_l0 (l : List S130) (hn : l.length ≤ 1000000) (c : ByteArray) : ∀ (s : List S130) (i : Int), 0 ≤ i → l.drop i.toNat = s → Ev (fun k => impl_articleOf.l0 k c l (l.length : Int) i) (findA c s i)
  | [], i, h0, hs => by
    refine Ev_shift ?_
    simp only [impl_articleOf.l0, if_neg (drop_nil h0 hs), findA]
    exact Ev.now _
  | a :: s, i, h0, hs => by
    obtain ⟨h1, h2, h3⟩ := drop_cons z130 h0 hs
    have h2' : rd_T130 l i = a := h2
    refine Ev_shift ?_
    by_cases g : a.f0.toList = c.toList
    · simp only [impl_articleOf.l0, if_pos h1, if_pos h0, h2', if_pos g, findA]
      exact Ev.now _
    · simp only [impl_articleOf.l0, if_pos h1, if_pos h0, h2', if_neg g, findA, w64 (n := i + 1) (by omega)]
      exact impl_findA_l0 l hn c s (i + 1) (by omega) h3
theorem spec_findA (l : List S130) (hn : l.length ≤ 1000000) (c : ByteArray) : Ev (fun k => spec_l03Find.f k l c) (findA c l 0) := by
  unfold spec_l03Find.f
  exact spec_findA_l0 l hn c l 0 (by omega) rfl
theorem impl_findA (l : List S130) (hn : l.length ≤ 1000000) (c : ByteArray) : Ev (fun k => impl_articleOf.f k l c) (findA c l 0) := by
  unfold impl_articleOf.f
  exact impl_findA_l0 l hn c l 0 (by omega) rfl
def fitB (a : S130) (t : Int) : Bool := if a.f2 ≤ t then decide (wrap64 (10 * a.f2) > wrap64 (9 * t)) else false
theorem spec_fit (a : S130) (t : Int) : spec_l17Fits.f a.f0 a.f1 a.f2 a.f3 a.f4 a.f5 a.f6 a.f7 a.f8 t = some (fitB a t) := by
  unfold spec_l17Fits.f fitB
  split <;> rfl
theorem impl_fit (a : S130) (t : Int) : impl_fits.f a.f0 a.f1 a.f2 a.f3 a.f4 a.f5 a.f6 a.f7 a.f8 t = some (fitB a t) := by
  unfold impl_fits.f fitB
  split <;> rfl
def rdS (l : List ByteArray) (i : Int) : ByteArray := rdOf ByteArray.empty l i
def QR (l : List S130) (t : List Int) (s : List ByteArray) (i : Int) : Prop := (rdS s i).toList = [] ∨ (0 ≤ findA (rdS s i) l 0 ∧ fitB (rd_T130 l (findA (rdS s i) l 0)) (rd t i) = true)
def PRack (l : List S130) (x y : Int) (t : List Int) (s : List ByteArray) : Prop := PArts l ∧ PPlace x y ∧ (1 ≤ (t.length : Int) ∧ (t.length : Int) ≤ 12) ∧ (s.length : Int) = (t.length : Int) ∧ ∀ i : Int, 0 ≤ i → i < (t.length : Int) → (20 ≤ rd t i ∧ rd t i ≤ 300) ∧ QR l t s i
theorem spec_rack_ev (l : List S130) (hn : l.length ≤ 1000000) (hz : ∀ x ∈ l, x.f0.size ≤ 140737488351232) (x y : Int) (t : List Int) (s : List ByteArray) : Ev (fun k => spec_IsRack.f k l x y t s) (tt (PRack l x y t s)) := by
  have bad : ¬ PRack l x y t s → Ev (fun k => spec_IsRack.j0 k l true x y t s) (tt (PRack l x y t s)) := fun h => by
    rw [tt_neg h]
    refine Ev_shift ?_
    simp only [spec_IsRack.j0, if_true]
    exact Ev.now _
  unfold spec_IsRack.f
  refine Ev.bind (spec_arts_ev l hn hz) ?_
  by_cases h1 : PArts l
  · simp only [tt_pos h1, if_true, spec_place_eq, Option.bind_some, l01In_eq]
    by_cases h2 : PPlace x y
    · simp only [decide_eq_true h2, if_true]
      by_cases h3 : 1 ≤ (t.length : Int) ∧ (t.length : Int) ≤ 12
      · simp only [decide_eq_true h3, if_true]
        by_cases h4 : (s.length : Int) = (t.length : Int)
        · rw [show ((s.length : Int) != (t.length : Int)) = false by simp [h4]]
          refine Ev_shift ?_
          simp only [spec_IsRack.j0, Bool.false_eq_true, if_false]
          have h := ev_all (L := fun i k => spec_IsRack.l0 k l i x y t s) (P := fun i => (20 ≤ rd t i ∧ rd t i ≤ 300) ∧ QR l t s i) (n := (t.length : Int)) (fin := true) (fun i i0 i1 hp r hr => by
            refine Ev_shift ?_
            simp only [spec_IsRack.l0, if_pos i1, if_pos i0, if_pos (show i < (s.length : Int) by omega)]
            refine Ev.bind (spec_findA l hn _) ?_
            simp only [l01In_eq, Option.bind_some, decide_eq_true hp.1, if_true, w64 (n := i + 1) (by omega)]
            by_cases c : (rdOf ByteArray.empty s i).toList = []
            · simp only [if_pos c]
              exact hr
            · have hq : 0 ≤ findA (rdOf ByteArray.empty s i) l 0 ∧ fitB (rd_T130 l (findA (rdOf ByteArray.empty s i) l 0)) (rd t i) = true := hp.2.elim (fun e => absurd e c) id
              have hr2 := findA_rng (rdOf ByteArray.empty s i) l 0 (by omega)
              simp only [if_neg c, if_neg (show ¬ findA (rdOf ByteArray.empty s i) l 0 < 0 by omega), if_pos hq.1, if_pos (show findA (rdOf ByteArray.empty s i) l 0 < (l.length : Int) by omega), spec_fit, hq.2, Option.bind_some, if_true]
              exact hr) (fun i i0 i1 hp => by
            refine Ev_shift ?_
            simp only [spec_IsRack.l0, if_pos i1, if_pos i0, if_pos (show i < (s.length : Int) by omega)]
            refine Ev.bind (spec_findA l hn _) ?_
            simp only [l01In_eq, Option.bind_some, w64 (n := i + 1) (by omega)]
            by_cases c0 : 20 ≤ rd t i ∧ rd t i ≤ 300
            · have c : ¬ (rdOf ByteArray.empty s i).toList = [] := fun e => hp ⟨c0, .inl e⟩
              simp only [decide_eq_true c0, if_true, if_neg c]
              by_cases c2 : findA (rdOf ByteArray.empty s i) l 0 < 0
              · simp only [if_pos c2]
                exact Ev.now _
              · have hr2 := findA_rng (rdOf ByteArray.empty s i) l 0 (by omega)
                have c3 : fitB (rd_T130 l (findA (rdOf ByteArray.empty s i) l 0)) (rd t i) = false := by
                  rw [← Bool.not_eq_true]
                  exact fun e => hp ⟨c0, .inr ⟨by unfold rdS; omega, e⟩⟩
                simp only [if_neg c2, if_pos (show 0 ≤ findA (rdOf ByteArray.empty s i) l 0 by omega), if_pos (show findA (rdOf ByteArray.empty s i) l 0 < (l.length : Int) by omega), spec_fit, c3, Option.bind_some, Bool.false_eq_true, if_false]
                exact Ev.now _
            · simp only [decide_eq_false c0, Bool.false_eq_true, if_false]
              exact Ev.now _) (by
            refine Ev_shift ?_
            simp only [spec_IsRack.l0, if_neg (show ¬ (t.length : Int) < (t.length : Int) by omega)]
            exact Ev.now _) t.length 0 (by omega) (by omega)
          refine Ev_eq h ?_
          rw [Bool.true_and]
          exact tt_iff ⟨fun h => ⟨h1, h2, h3, h4, h⟩, fun h => h.2.2.2.2⟩
        · rw [show ((s.length : Int) != (t.length : Int)) = true by simp [h4]]
          exact bad (fun h => h4 h.2.2.2.1)
      · simp only [decide_eq_false h3, Bool.false_eq_true, if_false]
        exact bad (fun h => h3 h.2.2.1)
    · simp only [decide_eq_false h2, Bool.false_eq_true, if_false]
      exact bad (fun h => h2 h.2.1)
  · simp only [tt_neg h1, Bool.false_eq_true, if_false]
    exact bad (fun h => h1 h.1)
theorem impl_rack_ev (l : List S130) (hn : l.length ≤ 1000000) (hz : ∀ x ∈ l, x.f0.size ≤ 140737488351232) (x y : Int) (t : List Int) (s : List ByteArray) : Ev (fun k => impl_IsRack.f k l x y t s) (tt (PRack l x y t s)) := by
  have bad : ¬ PRack l x y t s → Ev (fun k => impl_IsRack.j0 k l true x y t s) (tt (PRack l x y t s)) := fun h => by
    rw [tt_neg h]
    refine Ev_shift ?_
    simp only [impl_IsRack.j0, if_true]
    exact Ev.now _
  unfold impl_IsRack.f
  refine Ev.bind (impl_arts_ev l hn hz) ?_
  by_cases h1 : PArts l
  · simp only [tt_pos h1, if_true, impl_place_eq, Option.bind_some]
    by_cases h2 : PPlace x y
    · simp only [decide_eq_true h2, if_true]
      by_cases h3 : (t.length : Int) < 1
      · simp only [if_pos h3]
        exact bad (fun h => by have := h.2.2.1; omega)
      · simp only [if_neg h3]
        by_cases h5 : (t.length : Int) > 12
        · simp only [if_pos h5]
          exact bad (fun h => by have := h.2.2.1; omega)
        · simp only [if_neg h5]
          by_cases h4 : (s.length : Int) = (t.length : Int)
          · simp only [if_pos h4]
            have hw : Ev (fun k => impl_allWithin.f k t 20 300) (tt (∀ i : Int, 0 ≤ i → i < (t.length : Int) → 20 ≤ rd t i ∧ rd t i ≤ 300)) := by
              unfold impl_allWithin.f
              have h := ev_all (L := fun i k => impl_allWithin.l0 k 20 300 t (t.length : Int) i) (P := fun i => 20 ≤ rd t i ∧ rd t i ≤ 300) (n := (t.length : Int)) (fin := true) (fun i i0 i1 hp r hr => by
                refine Ev_shift ?_
                simp only [impl_allWithin.l0, if_pos i1, if_pos i0, within_eq, Option.bind_some, decide_eq_true hp, if_true, w64 (n := i + 1) (by omega)]
                exact hr) (fun i i0 i1 hp => by
                refine Ev_shift ?_
                simp only [impl_allWithin.l0, if_pos i1, if_pos i0, within_eq, Option.bind_some, decide_eq_false hp, Bool.false_eq_true, if_false]
                exact Ev.now _) (by
                refine Ev_shift ?_
                simp only [impl_allWithin.l0, if_neg (show ¬ (t.length : Int) < (t.length : Int) by omega)]
                exact Ev.now _) t.length 0 (by omega) (by omega)
              refine Ev_eq h ?_
              rw [Bool.true_and]
            refine Ev.bind hw ?_
            by_cases h6 : ∀ i : Int, 0 ≤ i → i < (t.length : Int) → 20 ≤ rd t i ∧ rd t i ≤ 300
            · rw [tt_pos h6]
              simp only [Bool.not_true]
              refine Ev_shift ?_
              simp only [impl_IsRack.j0, Bool.false_eq_true, if_false]
              have h := ev_all (L := fun i k => impl_IsRack.l0 k l s (s.length : Int) i x y t s) (P := QR l t s) (n := (s.length : Int)) (fin := true) (fun i i0 i1 hp r hr => by
                refine Ev_shift ?_
                by_cases c : (rdOf ByteArray.empty s i).toList = []
                · simp only [impl_IsRack.l0, if_pos i1, if_pos i0, if_pos c, w64 (n := i + 1) (by omega)]
                  exact hr
                · have hq : 0 ≤ findA (rdOf ByteArray.empty s i) l 0 ∧ fitB (rd_T130 l (findA (rdOf ByteArray.empty s i) l 0)) (rd t i) = true := hp.elim (fun e => absurd e c) id
                  have hr2 := findA_rng (rdOf ByteArray.empty s i) l 0 (by omega)
                  simp only [impl_IsRack.l0, if_pos i1, if_pos i0, if_neg c]
                  refine Ev.bind (impl_findA l hn _) ?_
                  simp only [if_neg (show ¬ findA (rdOf ByteArray.empty s i) l 0 < 0 by omega), if_pos hq.1, if_pos (show findA (rdOf ByteArray.empty s i) l 0 < (l.length : Int) by omega), if_pos (show i < (t.length : Int) by omega), impl_fit, hq.2, Option.bind_some, if_true, w64 (n := i + 1) (by omega)]
                  exact hr) (fun i i0 i1 hp => by
                refine Ev_shift ?_
                have c : ¬ (rdOf ByteArray.empty s i).toList = [] := fun e => hp (.inl e)
                simp only [impl_IsRack.l0, if_pos i1, if_pos i0, if_neg c]
                refine Ev.bind (impl_findA l hn _) ?_
                by_cases c2 : findA (rdOf ByteArray.empty s i) l 0 < 0
                · simp only [if_pos c2]
                  exact Ev.now _
                · have hr2 := findA_rng (rdOf ByteArray.empty s i) l 0 (by omega)
                  have c3 : fitB (rd_T130 l (findA (rdOf ByteArray.empty s i) l 0)) (rd t i) = false := by
                    rw [← Bool.not_eq_true]
                    exact fun e => hp (.inr ⟨by unfold rdS; omega, e⟩)
                  simp only [if_neg c2, if_pos (show 0 ≤ findA (rdOf ByteArray.empty s i) l 0 by omega), if_pos (show findA (rdOf ByteArray.empty s i) l 0 < (l.length : Int) by omega), if_pos (show i < (t.length : Int) by omega), impl_fit, c3, Option.bind_some, Bool.false_eq_true, if_false]
                  exact Ev.now _) (by
                refine Ev_shift ?_
                simp only [impl_IsRack.l0, if_neg (show ¬ (s.length : Int) < (s.length : Int) by omega)]
                exact Ev.now _) s.length 0 (by omega) (by omega)
              refine Ev_eq h ?_
              rw [Bool.true_and]
              exact tt_iff ⟨fun h => ⟨h1, h2, by omega, h4, fun i i0 i1 => ⟨h6 i i0 i1, h i i0 (by omega)⟩⟩, fun h i i0 i1 => (h.2.2.2.2 i i0 (by omega)).2⟩
            · rw [tt_neg h6]
              simp only [Bool.not_false]
              exact bad (fun h => h6 fun i i0 i1 => (h.2.2.2.2 i i0 i1).1)
          · simp only [if_neg h4]
            exact bad (fun h => h4 h.2.2.2.1)
    · simp only [decide_eq_false h2, Bool.false_eq_true, if_false]
      exact bad (fun h => h2 h.2.1)
  · simp only [tt_neg h1, Bool.false_eq_true, if_false]
    exact bad (fun h => h1 h.1)
theorem rack_code (l : List S130) (hn : l.length ≤ 1000000) (hz : ∀ x ∈ l, x.f0.size ≤ 140737488351232) (x y : Int) (t : List Int) (ht : t.length ≤ 1000000) (s : List ByteArray) : Ev (fun k => spec_l17Code.f k l x y t s 0) (if tt (PRack l x y t s) = true then 0 else 1) := by
  unfold spec_l17Code.f
  refine Ev.bind (spec_rack_ev l hn hz x y t s) ?_
  by_cases h : PRack l x y t s
  · have h3 := h.2.2.1
    simp only [tt_pos h, if_true, l01In_eq, w64 (n := (t.length : Int) - 1) (by omega), Option.bind_some, decide_eq_true (show (0 : Int) ≤ 0 ∧ (0 : Int) ≤ (t.length : Int) - 1 by omega)]
    exact Ev.now _
  · simp only [tt_neg h, Bool.false_eq_true, if_false]
    exact Ev.now _
/-- The articles in the tubes. -/
def loadF (l : List S130) : List ByteArray → List S130
  | [] => []
  | c :: s => if c.toList = [] then loadF l s else rd_T130 l (findA c l 0) :: loadF l s
def LoadOk (l : List S130) (s : List ByteArray) : Prop := ∀ c ∈ s, c.toList = [] ∨ 0 ≤ findA c l 0
theorem loads_ok {l : List S130} {x y : Int} {t : List Int} {s : List ByteArray} (h : PRack l x y t s) : LoadOk l s ∧ s.length ≤ 12 := by
  have h4 := h.2.2.2.1
  have h3 := h.2.2.1
  refine ⟨fun c hc => ?_, by omega⟩
  obtain ⟨k, hk, rfl⟩ := List.mem_iff_getElem.1 hc
  have := (h.2.2.2.2 (k : Int) (by omega) (by omega)).2
  unfold QR at this
  have e : rdS s (k : Int) = s[k] := by
    show s.getD _ _ = _
    rw [Int.toNat_natCast, List.getD_eq_getElem?_getD, List.getElem?_eq_getElem hk]
    rfl
  rw [e] at this
  exact this.elim .inl (fun q => .inr q.1)
theorem impl_loaded_l0 (l : List S130) (hn : l.length ≤ 1000000) (s0 : List ByteArray) (hs : s0.length ≤ 12) (ok : LoadOk l s0) : ∀ (s : List ByteArray) (i : Int) (out : List S130), 0 ≤ i → s0.drop i.toNat = s → (out.length : Int) ≤ i → Ev (fun k => impl_loaded.l0 k l out s0 (s0.length : Int) i) (out ++ loadF l s)
  | [], i, out, h0, h, ho => by
    refine Ev_shift ?_
    simp only [impl_loaded.l0, if_neg (drop_nil h0 h), loadF, List.append_nil]
    exact Ev.now _
  | c :: s, i, out, h0, h, ho => by
    obtain ⟨h1, h2, h3⟩ := drop_cons ByteArray.empty h0 h
    have h2' : rdOf ByteArray.empty s0 i = c := h2
    have hc : c ∈ s0 := by
      have : c ∈ s0.drop i.toNat := by rw [h]; simp
      exact List.mem_of_mem_drop this
    refine Ev_shift ?_
    by_cases g : c.toList = []
    · simp only [impl_loaded.l0, if_pos h1, if_pos h0, h2', if_pos g, loadF, w64 (n := i + 1) (by omega)]
      exact impl_loaded_l0 l hn s0 hs ok s (i + 1) out (by omega) h3 (by omega)
    · have hf : 0 ≤ findA c l 0 := (ok c hc).elim (fun e => absurd e g) id
      have hr := findA_rng c l 0 (by omega)
      simp only [impl_loaded.l0, if_pos h1, if_pos h0, h2', if_neg g, loadF, w64 (n := i + 1) (by omega)]
      refine Ev.bind (impl_findA l hn c) ?_
      simp only [if_pos hf, if_pos (show findA c l 0 < (l.length : Int) by omega), if_pos (show out.length < 1759218604441 by omega)]
      refine Ev_eq (impl_loaded_l0 l hn s0 hs ok s (i + 1) _ (by omega) h3 (by simp; omega)) ?_
      simp
theorem impl_loaded_ev (l : List S130) (hn : l.length ≤ 1000000) (x y : Int) (t : List Int) (s : List ByteArray) (hs : s.length ≤ 12) (ok : LoadOk l s) : Ev (fun k => impl_loaded.f k l x y t s) (loadF l s) := by
  unfold impl_loaded.f
  exact impl_loaded_l0 l hn s hs ok s 0 [] (by omega) rfl (by simp)
theorem loadF_length (l : List S130) : ∀ s : List ByteArray, (loadF l s).length ≤ s.length
  | [] => Nat.le_refl _
  | c :: s => by
    have := loadF_length l s
    unfold loadF
    split
    · simp only [List.length_cons]
      omega
    · simp only [List.length_cons]
      omega
def netF : List S130 → Int → Int
  | [], a => a
  | x :: s, a => netF s (wrap64 (a + x.f7))
theorem spec_net_l0 (l : List S130) (hn : l.length ≤ 1000000) (x y : Int) (t : List Int) (s0 : List ByteArray) (hs : s0.length ≤ 12) (ok : LoadOk l s0) : ∀ (s : List ByteArray) (i a : Int), 0 ≤ i → s0.drop i.toNat = s → Ev (fun k => spec_RackNet.l0 k l a i x y t s0) (netF (loadF l s) a, 0)
  | [], i, a, h0, h => by
    refine Ev_shift ?_
    simp only [spec_RackNet.l0, if_neg (drop_nil h0 h), loadF, netF]
    exact Ev.now _
  | c :: s, i, a, h0, h => by
    obtain ⟨h1, h2, h3⟩ := drop_cons ByteArray.empty h0 h
    have h2' : rdOf ByteArray.empty s0 i = c := h2
    have hc : c ∈ s0 := by
      have : c ∈ s0.drop i.toNat := by rw [h]; simp
      exact List.mem_of_mem_drop this
    refine Ev_shift ?_
    by_cases g : c.toList = []
    · simp only [spec_RackNet.l0, if_pos h1, if_pos h0, h2', if_pos g, loadF, w64 (n := i + 1) (by omega)]
      exact spec_net_l0 l hn x y t s0 hs ok s (i + 1) a (by omega) h3
    · have hf : 0 ≤ findA c l 0 := (ok c hc).elim (fun e => absurd e g) id
      have hr := findA_rng c l 0 (by omega)
      simp only [spec_RackNet.l0, if_pos h1, if_pos h0, h2', if_neg g, loadF, netF, w64 (n := i + 1) (by omega)]
      refine Ev.bind (spec_findA l hn c) ?_
      simp only [if_pos hf, if_pos (show findA c l 0 < (l.length : Int) by omega)]
      exact spec_net_l0 l hn x y t s0 hs ok s (i + 1) _ (by omega) h3
theorem impl_net_l0 (v : List S130) (hv : v.length ≤ 1000) : ∀ (s : List S130) (i a : Int), 0 ≤ i → v.drop i.toNat = s → Ev (fun k => impl_RackNet.l0 k a v (v.length : Int) i) (netF s a, 0)
  | [], i, a, h0, h => by
    refine Ev_shift ?_
    simp only [impl_RackNet.l0, if_neg (drop_nil h0 h), netF]
    exact Ev.now _
  | c :: s, i, a, h0, h => by
    obtain ⟨h1, h2, h3⟩ := drop_cons z130 h0 h
    have h2' : rd_T130 v i = c := h2
    refine Ev_shift ?_
    simp only [impl_RackNet.l0, if_pos h1, if_pos h0, h2', netF, w64 (n := i + 1) (by omega)]
    exact impl_net_l0 v hv s (i + 1) _ (by omega) h3
theorem agree_RackNet (m0 : List S130) (a1_0 a1_1 : Int) (t : List Int) (s : List ByteArray) (hn0 : m0.length ≤ 1000000) (hz0 : ∀ x ∈ m0, x.f0.size ≤ 140737488351232) (ht : t.length ≤ 1000000) (hs : s.length ≤ 1000000) : ∃ (K : Nat) (r1 : Int) (r2 : Int), ∀ k, K ≤ k → spec_RackNet.f k m0 a1_0 a1_1 t s = some (r1, r2) ∧ impl_RackNet.f k m0 a1_0 a1_1 t s = some (r1, r2) := by
  have hc := rack_code m0 hn0 hz0 a1_0 a1_1 t ht s
  have hi := impl_rack_ev m0 hn0 hz0 a1_0 a1_1 t s
  have fin : ∀ q : Int × Int, Ev (fun k => spec_RackNet.f k m0 a1_0 a1_1 t s) q → Ev (fun k => impl_RackNet.f k m0 a1_0 a1_1 t s) q → ∃ (K : Nat) (r1 : Int) (r2 : Int), ∀ k, K ≤ k → spec_RackNet.f k m0 a1_0 a1_1 t s = some (r1, r2) ∧ impl_RackNet.f k m0 a1_0 a1_1 t s = some (r1, r2) := by
    rintro ⟨x, y⟩ e1 e2
    obtain ⟨K, hk⟩ := Ev_both e1 e2
    exact ⟨K, x, y, hk⟩
  by_cases h : PRack m0 a1_0 a1_1 t s
  · obtain ⟨ok, hs12⟩ := loads_ok h
    rw [tt_pos h] at hi
    rw [tt_pos h, if_pos rfl] at hc
    have hl := loadF_length m0 s
    refine fin (netF (loadF m0 s) 0, 0) ?_ ?_
    · unfold spec_RackNet.f
      refine Ev.bind hc ?_
      simp only [if_true]
      exact spec_net_l0 m0 hn0 a1_0 a1_1 t s hs12 ok s 0 0 (by omega) rfl
    · unfold impl_RackNet.f
      refine Ev.bind hi ?_
      simp only [if_true]
      refine Ev.bind (impl_loaded_ev m0 hn0 a1_0 a1_1 t s hs12 ok) ?_
      exact impl_net_l0 (loadF m0 s) (by omega) (loadF m0 s) 0 0 (by omega) rfl
  · rw [tt_neg h] at hi
    rw [tt_neg h, if_neg (by decide)] at hc
    refine fin (0, 1) ?_ ?_
    · unfold spec_RackNet.f
      refine Ev.bind hc ?_
      simp only [if_neg (show ¬ (1 : Int) = 0 by decide)]
      exact Ev.now _
    · unfold impl_RackNet.f
      refine Ev.bind hi ?_
      simp only [Bool.false_eq_true, if_false]
      exact Ev.now _
end Go.Proofs.Ytalcbcelalbhiaa.Pure
