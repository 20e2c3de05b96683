/- The plain law of FnExactIsTable: what the printed functions compute, without Go and memory. No condition but the bounds that stand in it. -/
import Derived.Test.YtfplnebeojdgcaaPFnExactIsTablex0
import Derived.Test.YtfplnebeojdgcaaQFnExactIsTablea
import Derived.Test.YtfplnebeojdgcaaQFnExactIsTableb
import Derived.Test.YtfplnebeojdgcaaQFnExactIsTablec
import Derived.Test.YtfplnebeojdgcaaOpen
namespace Go.Proofs.Ytfplnebeojdgcaa.Pure
open Go.RowKit Go.Proofs.Ytfplnebeojdgcaa.PFnExactIsTable Go.Proofs.YtfplnebeojdgcaaW.PrintWords Go.Proofs.YtfplnebeojdgcaaW.PrintLast Go.Proofs.Ytfplnebeojdgcaa.Opening
set_option linter.unusedVariables false
set_option linter.unusedSimpArgs false
theorem w64 {n : Int} (h : -9223372036854775808 ≤ n ∧ n ≤ 9223372036854775807) : wrap64 n = n := by
  unfold wrap64
  omega
theorem l01In_eq (a b c : Int) : spec_l01In.f a b c = some (decide (b ≤ a ∧ a ≤ c)) := by
  unfold spec_l01In.f
  by_cases h : b ≤ a <;> simp [h]
theorem within_eq (a b c : Int) : impl_within.f a b c = some (decide (b ≤ a ∧ a ≤ c)) := by
  unfold impl_within.f
  by_cases h : b ≤ a <;> simp [h]
theorem Ev_shift {α : Type} {g : Nat → Option α} {r : α} (h : Ev (fun k => g (k + 1)) r) : Ev g r := Ev.step (fun _ => rfl) h
theorem Ev_both {α β : Type} {g : Nat → Option α} {f : Nat → Option β} {r : α} {q : β} (h1 : Ev g r) (h2 : Ev f q) : ∃ K, ∀ k, K ≤ k → g k = some r ∧ f k = some q := by
  obtain ⟨K, h1⟩ := h1
  obtain ⟨K', h2⟩ := h2
  exact ⟨max K K', fun k hk => ⟨h1 k (by omega), h2 k (by omega)⟩⟩
theorem Ev_eq {α : Type} {g : Nat → Option α} {r q : α} (h : Ev g r) (e : r = q) : Ev g q := e ▸ h
theorem Ev_some {α : Type} {r q : α} (e : r = q) : Ev (fun _ => some r) q := e ▸ Ev.now r
noncomputable def tt (p : Prop) : Bool := @decide p (Classical.propDecidable p)
theorem tt_pos {p : Prop} (h : p) : tt p = true := by unfold tt; exact @decide_eq_true p (Classical.propDecidable p) h
theorem tt_neg {p : Prop} (h : ¬ p) : tt p = false := by unfold tt; exact @decide_eq_false p (Classical.propDecidable p) h
theorem tt_dec (p : Prop) [i : Decidable p] : tt p = decide p := by
  by_cases h : p
  · rw [tt_pos h, decide_eq_true h]
  · rw [tt_neg h, decide_eq_false h]
theorem tt_iff {p q : Prop} (h : p ↔ q) : tt p = tt q := by rw [propext h]
theorem tt_and (p q : Prop) : (tt p && tt q) = tt (p ∧ q) := by
  by_cases h : p
  · rw [tt_pos h, Bool.true_and]; exact tt_iff ⟨fun x => ⟨h, x⟩, fun x => x.2⟩
  · rw [tt_neg h, Bool.false_and, tt_neg (fun x => h x.1)]
theorem tt_eq_true {p : Prop} : tt p = true ↔ p := by
  by_cases h : p
  · exact ⟨fun _ => h, fun _ => tt_pos h⟩
  · refine ⟨fun e => ?_, fun h' => absurd h' h⟩
    rw [tt_neg h] at e
    cases e
theorem ev_all {L : Int → Nat → Option Bool} {P : Int → Prop} {n : Int} {fin : Bool} (h1 : ∀ i, 0 ≤ i → i < n → P i → ∀ r, Ev (L (i + 1)) r → Ev (L i) r) (h2 : ∀ i, 0 ≤ i → i < n → ¬ P i → Ev (L i) false) (h3 : Ev (L n) fin) :
    ∀ (d : Nat) (i : Int), 0 ≤ i → i + d = n → Ev (L i) (fin && tt (∀ j, i ≤ j → j < n → P j))
  | 0, i, h0, hd => by
    have e : i = n := by omega
    rw [e, tt_pos (fun j h1 h2 => by omega), Bool.and_true]
    exact h3
  | d + 1, i, h0, hd => by
    by_cases hp : P i
    · have := h1 i h0 (by omega) hp _ (ev_all h1 h2 h3 d (i + 1) (by omega) (by omega))
      refine Ev_eq this ?_
      congr 1
      exact tt_iff ⟨fun h j h1 h2 => by
        by_cases e : j = i
        · rw [e]; exact hp
        · exact h j (by omega) h2, fun h j h1 h2 => h j (by omega) h2⟩
    · rw [tt_neg (fun h => hp (h i (Int.le_refl _) (by omega))), Bool.and_false]
      exact h2 i h0 (by omega) hp
theorem impl_isKind_eq (k : Int) : impl_isKind.f k = some (decide (0 ≤ k ∧ k ≤ 3)) := by
  unfold impl_isKind.f
  rw [within_eq]; rfl
/-- A demand is right at its place. -/
def PT (l : List S85) (i : Int) : Prop := (0 ≤ (rd_T85 l i).f0 ∧ (rd_T85 l i).f0 ≤ 3) ∧ (20 ≤ (rd_T85 l i).f1 ∧ (rd_T85 l i).f1 ≤ 300) ∧ (0 ≤ (rd_T85 l i).f2 ∧ (rd_T85 l i).f2 ≤ 10000) ∧
  (0 < i → (rd_T85 l (i - 1)).f0 < (rd_T85 l i).f0 ∨ (rd_T85 l (i - 1)).f0 = (rd_T85 l i).f0 ∧ (rd_T85 l (i - 1)).f1 < (rd_T85 l i).f1 ∧ (rd_T85 l (i - 1)).f2 ≤ (rd_T85 l i).f2)
def PTab (l : List S85) : Prop := l.length ≤ 12 ∧ ∀ j : Int, 0 ≤ j → j < l.length → PT l j
theorem before_eq (a b c d e f : Int) : spec_l16Before.f a b c d e f = some (decide (a < d ∨ a = d ∧ b < e)) := by
  unfold spec_l16Before.f
  by_cases h : a < d
  · simp [h]
  · by_cases h2 : a = d <;> simp [h, h2]
theorem spec_IsTable_j1 (l : List S85) (hn : l.length ≤ 140737488351232) (i : Int) (h0 : 0 ≤ i) (h1 : i < l.length)
    (hf : (0 ≤ (rd_T85 l i).f0 ∧ (rd_T85 l i).f0 ≤ 3) ∧ (20 ≤ (rd_T85 l i).f1 ∧ (rd_T85 l i).f1 ≤ 300) ∧ (0 ≤ (rd_T85 l i).f2 ∧ (rd_T85 l i).f2 ≤ 10000)) :
    (PT l i → ∀ r, Ev (fun k => spec_IsTable.l0 k l (i + 1)) r → Ev (fun k => spec_IsTable.j1 k l i false (rd_T85 l i).f0 (rd_T85 l i).f1 (rd_T85 l i).f2) r) ∧
    (¬ PT l i → Ev (fun k => spec_IsTable.j1 k l i false (rd_T85 l i).f0 (rd_T85 l i).f1 (rd_T85 l i).f2) false) := by
  by_cases hi : i > 0
  · have w1 : wrap64 (i - 1) = i - 1 := w64 (by omega)
    have w2 : wrap64 (i + 1) = i + 1 := w64 (by omega)
    refine ⟨fun hp r hr => ?_, fun hp => ?_⟩
    · refine Ev_shift ?_
      simp only [spec_IsTable.j1, Bool.false_eq_true, if_false, if_pos hi, w1, w2, if_pos (show 0 ≤ i - 1 by omega), if_pos (show i - 1 < (l.length : Int) by omega), before_eq, Option.bind_some, decide_eq_true_eq]
      rcases hp.2.2.2 hi with h | ⟨h, h2, h3⟩
      · simp only [if_pos (show (rd_T85 l (i - 1)).f0 < (rd_T85 l i).f0 ∨ (rd_T85 l (i - 1)).f0 = (rd_T85 l i).f0 ∧ (rd_T85 l (i - 1)).f1 < (rd_T85 l i).f1 from .inl h), if_neg (show ¬ (rd_T85 l (i - 1)).f0 = (rd_T85 l i).f0 by omega)]
        exact hr
      · simp only [if_pos (show (rd_T85 l (i - 1)).f0 < (rd_T85 l i).f0 ∨ (rd_T85 l (i - 1)).f0 = (rd_T85 l i).f0 ∧ (rd_T85 l (i - 1)).f1 < (rd_T85 l i).f1 from .inr ⟨h, h2⟩), if_pos h, if_neg (show ¬ (rd_T85 l (i - 1)).f2 > (rd_T85 l i).f2 by omega)]
        exact hr
    · refine Ev_shift ?_
      simp only [spec_IsTable.j1, Bool.false_eq_true, if_false, if_pos hi, w1, w2, if_pos (show 0 ≤ i - 1 by omega), if_pos (show i - 1 < (l.length : Int) by omega), before_eq, Option.bind_some, decide_eq_true_eq]
      by_cases hb : (rd_T85 l (i - 1)).f0 < (rd_T85 l i).f0 ∨ (rd_T85 l (i - 1)).f0 = (rd_T85 l i).f0 ∧ (rd_T85 l (i - 1)).f1 < (rd_T85 l i).f1
      · have h2 : (rd_T85 l (i - 1)).f0 = (rd_T85 l i).f0 := by
          rcases hb with h | h
          · exact absurd ⟨hf.1, hf.2.1, hf.2.2, fun _ => .inl h⟩ hp
          · exact h.1
        have h3 : (rd_T85 l (i - 1)).f2 > (rd_T85 l i).f2 := by
          rcases hb with h | h
          · omega
          · by_cases h4 : (rd_T85 l (i - 1)).f2 ≤ (rd_T85 l i).f2
            · exact absurd ⟨hf.1, hf.2.1, hf.2.2, fun _ => .inr ⟨h.1, h.2, h4⟩⟩ hp
            · omega
        simp only [if_pos hb, if_pos h2, if_pos h3]
        exact Ev.now _
      · simp only [if_neg hb]
        exact Ev.now _
  · refine ⟨fun hp r hr => ?_, fun hp => absurd ⟨hf.1, hf.2.1, hf.2.2, fun h => absurd h hi⟩ hp⟩
    refine Ev_shift ?_
    simp only [spec_IsTable.j1, Bool.false_eq_true, if_false, if_neg hi, w64 (n := i + 1) (by omega)]
    exact hr
theorem spec_IsTable_ev (l : List S85) (hn : l.length ≤ 140737488351232) : Ev (fun k => spec_IsTable.f k l) (tt (PTab l)) := by
  unfold spec_IsTable.f
  have bad : ∀ i a b c, Ev (fun k => spec_IsTable.j1 k l i true a b c) false := fun i a b c => by
    refine Ev_shift ?_
    simp only [spec_IsTable.j1, if_true]
    exact Ev.now _
  have := ev_all (L := fun i k => spec_IsTable.l0 k l i) (P := PT l) (n := l.length) (fin := decide (l.length ≤ 12)) (fun i h0 h1 hp r hr => ?_) (fun i h0 h1 hp => ?_) ?_ l.length 0 (by omega) (by omega)
  · refine Ev_eq this ?_
    rw [← tt_dec, tt_and]
    exact tt_iff ⟨fun h => ⟨h.1, fun j h0 h1 => h.2 j h0 h1⟩, fun h => ⟨h.1, fun j h0 h1 => h.2 j h0 h1⟩⟩
  · refine Ev_shift ?_
    simp only [spec_IsTable.l0, if_pos h1, if_pos h0, l01In_eq, Option.bind_some, decide_eq_true_eq, if_pos hp.1, if_pos hp.2.1, decide_eq_true hp.2.2.1, Bool.not_true]
    exact (spec_IsTable_j1 l hn i h0 h1 ⟨hp.1, hp.2.1, hp.2.2.1⟩).1 hp r hr
  · refine Ev_shift ?_
    simp only [spec_IsTable.l0, if_pos h1, if_pos h0, l01In_eq, Option.bind_some, decide_eq_true_eq]
    by_cases c1 : 0 ≤ (rd_T85 l i).f0 ∧ (rd_T85 l i).f0 ≤ 3
    · by_cases c2 : 20 ≤ (rd_T85 l i).f1 ∧ (rd_T85 l i).f1 ≤ 300
      · by_cases c3 : 0 ≤ (rd_T85 l i).f2 ∧ (rd_T85 l i).f2 ≤ 10000
        · simp only [if_pos c1, if_pos c2, decide_eq_true c3, Bool.not_true]
          exact (spec_IsTable_j1 l hn i h0 h1 ⟨c1, c2, c3⟩).2 hp
        · simp only [if_pos c1, if_pos c2, decide_eq_false c3, Bool.not_false]
          exact bad _ _ _ _
      · simp only [if_pos c1, if_neg c2]
        exact bad _ _ _ _
    · simp only [if_neg c1]
      exact bad _ _ _ _
  · refine Ev_shift ?_
    simp only [spec_IsTable.l0, if_neg (show ¬ (l.length : Int) < l.length by omega)]
    exact Ev_some (by congr 1; exact propext ⟨fun h => by omega, fun h => by omega⟩)
theorem impl_IsTable_j1 (l : List S85) (hn : l.length ≤ 140737488351232) (i : Int) (h0 : 0 ≤ i) (h1 : i < l.length)
    (hf : (0 ≤ (rd_T85 l i).f0 ∧ (rd_T85 l i).f0 ≤ 3) ∧ (20 ≤ (rd_T85 l i).f1 ∧ (rd_T85 l i).f1 ≤ 300) ∧ (0 ≤ (rd_T85 l i).f2 ∧ (rd_T85 l i).f2 ≤ 10000)) :
    (PT l i → ∀ r, Ev (fun k => impl_IsTable.l0 k l l l.length (i + 1)) r → Ev (fun k => impl_IsTable.j1 k l i l l.length i false (rd_T85 l i).f0 (rd_T85 l i).f1 (rd_T85 l i).f2) r) ∧
    (¬ PT l i → Ev (fun k => impl_IsTable.j1 k l i l l.length i false (rd_T85 l i).f0 (rd_T85 l i).f1 (rd_T85 l i).f2) false) := by
  by_cases hi : i > 0
  · have w1 : wrap64 (i - 1) = i - 1 := w64 (by omega)
    have w2 : wrap64 (i + 1) = i + 1 := w64 (by omega)
    refine ⟨fun hp r hr => ?_, fun hp => ?_⟩
    · refine Ev_shift ?_
      simp only [impl_IsTable.j1, Bool.false_eq_true, if_false, if_neg (show ¬ i = 0 by omega), w1, w2, if_pos (show 0 ≤ i - 1 by omega), if_pos (show i - 1 < (l.length : Int) by omega)]
      rcases hp.2.2.2 hi with h | ⟨h, h2, h3⟩
      · simp only [if_neg (show ¬ (rd_T85 l (i - 1)).f0 > (rd_T85 l i).f0 by omega), if_neg (show ¬ (rd_T85 l (i - 1)).f0 = (rd_T85 l i).f0 by omega)]
        exact hr
      · simp only [if_neg (show ¬ (rd_T85 l (i - 1)).f0 > (rd_T85 l i).f0 by omega), if_pos h, if_neg (show ¬ (rd_T85 l (i - 1)).f1 ≥ (rd_T85 l i).f1 by omega), if_neg (show ¬ (rd_T85 l (i - 1)).f2 > (rd_T85 l i).f2 by omega)]
        exact hr
    · refine Ev_shift ?_
      simp only [impl_IsTable.j1, Bool.false_eq_true, if_false, if_neg (show ¬ i = 0 by omega), w1, w2, if_pos (show 0 ≤ i - 1 by omega), if_pos (show i - 1 < (l.length : Int) by omega)]
      by_cases c1 : (rd_T85 l (i - 1)).f0 > (rd_T85 l i).f0
      · simp only [if_pos c1]
        exact Ev.now _
      · by_cases c2 : (rd_T85 l (i - 1)).f0 = (rd_T85 l i).f0
        · by_cases c3 : (rd_T85 l (i - 1)).f1 ≥ (rd_T85 l i).f1
          · simp only [if_neg c1, if_pos c2, if_pos c3]
            exact Ev.now _
          · by_cases c4 : (rd_T85 l (i - 1)).f2 > (rd_T85 l i).f2
            · simp only [if_neg c1, if_pos c2, if_neg c3, if_pos c4]
              exact Ev.now _
            · exact absurd ⟨hf.1, hf.2.1, hf.2.2, fun _ => .inr ⟨c2, by omega, by omega⟩⟩ hp
        · exact absurd ⟨hf.1, hf.2.1, hf.2.2, fun _ => .inl (by omega)⟩ hp
  · refine ⟨fun hp r hr => ?_, fun hp => absurd ⟨hf.1, hf.2.1, hf.2.2, fun h => absurd h hi⟩ hp⟩
    refine Ev_shift ?_
    simp only [impl_IsTable.j1, Bool.false_eq_true, if_false, if_pos (show i = 0 by omega), w64 (n := i + 1) (by omega)]
    exact hr
theorem impl_isCalibre_eq (c : Int) : impl_isCalibre.f c = some (decide (20 ≤ c ∧ c ≤ 300)) := by
  unfold impl_isCalibre.f
  rw [within_eq]; rfl
theorem impl_IsTable_ev (l : List S85) (hn : l.length ≤ 140737488351232) : Ev (fun k => impl_IsTable.f k l) (tt (PTab l)) := by
  unfold impl_IsTable.f
  by_cases hl : (l.length : Int) > 12
  · simp only [if_pos hl]
    exact Ev_some (tt_neg (fun h => by have := h.1; omega)).symm
  · simp only [if_neg hl]
    have bad : ∀ i a b c, Ev (fun k => impl_IsTable.j1 k l i l l.length i true a b c) false := fun i a b c => by
      refine Ev_shift ?_
      simp only [impl_IsTable.j1, if_true]
      exact Ev.now _
    have := ev_all (L := fun i k => impl_IsTable.l0 k l l l.length i) (P := PT l) (n := l.length) (fin := true) (fun i h0 h1 hp r hr => ?_) (fun i h0 h1 hp => ?_) ?_ l.length 0 (by omega) (by omega)
    · refine Ev_eq this ?_
      rw [Bool.true_and]
      exact tt_iff ⟨fun h => ⟨by omega, fun j h0 h1 => h j h0 h1⟩, fun h j h0 h1 => h.2 j h0 h1⟩
    · refine Ev_shift ?_
      simp only [impl_IsTable.l0, if_pos h1, if_pos h0, impl_isKind_eq, impl_isCalibre_eq, within_eq, Option.bind_some, decide_eq_true_eq, if_pos hp.1, if_pos hp.2.1, decide_eq_true hp.2.2.1, Bool.not_true]
      exact (impl_IsTable_j1 l hn i h0 h1 ⟨hp.1, hp.2.1, hp.2.2.1⟩).1 hp r hr
    · refine Ev_shift ?_
      simp only [impl_IsTable.l0, if_pos h1, if_pos h0, impl_isKind_eq, impl_isCalibre_eq, within_eq, Option.bind_some, decide_eq_true_eq]
      by_cases c1 : 0 ≤ (rd_T85 l i).f0 ∧ (rd_T85 l i).f0 ≤ 3
      · by_cases c2 : 20 ≤ (rd_T85 l i).f1 ∧ (rd_T85 l i).f1 ≤ 300
        · by_cases c3 : 0 ≤ (rd_T85 l i).f2 ∧ (rd_T85 l i).f2 ≤ 10000
          · simp only [if_pos c1, if_pos c2, decide_eq_true c3, Bool.not_true]
            exact (impl_IsTable_j1 l hn i h0 h1 ⟨c1, c2, c3⟩).2 hp
          · simp only [if_pos c1, if_pos c2, decide_eq_false c3, Bool.not_false]
            exact bad _ _ _ _
        · simp only [if_pos c1, if_neg c2]
          exact bad _ _ _ _
      · simp only [if_neg c1]
        exact bad _ _ _ _
    · refine Ev_shift ?_
      simp only [impl_IsTable.l0, if_neg (show ¬ (l.length : Int) < l.length by omega)]
      exact Ev.now _
theorem agree_IsTable (m0 : List S85) (hn0 : m0.length ≤ 1000000) (hq0 : ∀ x ∈ m0, (I64 x.f0 ∧ I64 x.f1 ∧ I64 x.f2)) : ∃ (K : Nat) (r1 : Bool), ∀ k, K ≤ k → spec_IsTable.f k m0 = some r1 ∧ impl_IsTable.f k m0 = some r1 := by
  obtain ⟨K, h⟩ := Ev_both (spec_IsTable_ev m0 (by omega)) (impl_IsTable_ev m0 (by omega))
  exact ⟨K, _, h⟩
end Go.Proofs.Ytfplnebeojdgcaa.Pure
