/- The plain law of FnExactDistanceFor: what the printed functions compute, without Go and memory. No condition but the bounds that stand in it. -/
import Derived.Test.YtdkibmdpipoioaaPFnExactDistanceForx0
import Derived.Test.YtdkibmdpipoioaaQFnExactDistanceFora
import Derived.Test.YtdkibmdpipoioaaQFnExactDistanceForb
import Derived.Test.YtdkibmdpipoioaaQFnExactDistanceForc
import Derived.Test.YtdkibmdpipoioaaQFnExactDistanceFord
import Derived.Test.YtdkibmdpipoioaaOpen
namespace Go.Proofs.Ytdkibmdpipoioaa.Pure
open Go.RowKit Go.Proofs.Ytdkibmdpipoioaa.PFnExactDistanceFor Go.Proofs.YtdkibmdpipoioaaW.PrintWords Go.Proofs.YtdkibmdpipoioaaW.PrintLast Go.Proofs.Ytdkibmdpipoioaa.Opening
set_option linter.unusedVariables false
set_option linter.unusedSimpArgs false
theorem w64 {n : Int} (h : -9223372036854775808 ≤ n ∧ n ≤ 9223372036854775807) : wrap64 n = n := by
  unfold wrap64
  omega
theorem l01In_eq (a b c : Int) : spec_l01In.f a b c = some (decide (b ≤ a ∧ a ≤ c)) := by
  unfold spec_l01In.f
  by_cases h : b ≤ a <;> simp [h]
theorem within_eq (a b c : Int) : impl_within.f a b c = some (decide (b ≤ a ∧ a ≤ c)) := by
  unfold impl_within.f
  by_cases h : b ≤ a <;> simp [h]
theorem drop_cons {α : Type} {l : List α} {i : Int} {a : α} {s : List α} (z : α) (h0 : 0 ≤ i) (h : l.drop i.toNat = a :: s) : i < l.length ∧ l.getD i.toNat z = a ∧ l.drop (i + 1).toNat = s := by
  have hlt : i.toNat < l.length := by
    rcases Nat.lt_or_ge i.toNat l.length with h1 | h1
    · exact h1
    · rw [List.drop_eq_nil_of_le h1] at h; cases h
  rw [List.drop_eq_getElem_cons hlt] at h
  injection h with h1 h2
  refine ⟨by omega, ?_, ?_⟩
  · rw [List.getD_eq_getElem?_getD, List.getElem?_eq_getElem hlt]; exact h1
  · rw [show (i + 1).toNat = i.toNat + 1 by omega]; exact h2
theorem drop_nil {α : Type} {l : List α} {i : Int} (h0 : 0 ≤ i) (h : l.drop i.toNat = []) : ¬ i < (l.length : Int) := by
  have := List.drop_eq_nil_iff.1 h
  omega
theorem Ev_shift {α : Type} {g : Nat → Option α} {r : α} (h : Ev (fun k => g (k + 1)) r) : Ev g r := Ev.step (fun _ => rfl) h
theorem Ev_both {α β : Type} {g : Nat → Option α} {f : Nat → Option β} {r : α} {q : β} (h1 : Ev g r) (h2 : Ev f q) : ∃ K, ∀ k, K ≤ k → g k = some r ∧ f k = some q := by
  obtain ⟨K, h1⟩ := h1
  obtain ⟨K', h2⟩ := h2
  exact ⟨max K K', fun k hk => ⟨h1 k (by omega), h2 k (by omega)⟩⟩
theorem Ev_eq {α : Type} {g : Nat → Option α} {r q : α} (h : Ev g r) (e : r = q) : Ev g q := e ▸ h
theorem Ev_some {α : Type} {r q : α} (e : r = q) : Ev (fun _ => some r) q := e ▸ Ev.now r
noncomputable def tt (p : Prop) : Bool := @decide p (Classical.propDecidable p)
theorem tt_pos {p : Prop} (h : p) : tt p = true := by unfold tt; exact @decide_eq_true p (Classical.propDecidable p) h
theorem tt_neg {p : Prop} (h : ¬ p) : tt p = false := by unfold tt; exact @decide_eq_false p (Classical.propDecidable p) h
theorem tt_dec (p : Prop) [i : Decidable p] : tt p = decide p := by
  by_cases h : p
  · rw [tt_pos h, decide_eq_true h]
  · rw [tt_neg h, decide_eq_false h]
theorem tt_iff {p q : Prop} (h : p ↔ q) : tt p = tt q := by rw [propext h]
theorem tt_and (p q : Prop) : (tt p && tt q) = tt (p ∧ q) := by
  by_cases h : p
  · rw [tt_pos h, Bool.true_and]; exact tt_iff ⟨fun x => ⟨h, x⟩, fun x => x.2⟩
  · rw [tt_neg h, Bool.false_and, tt_neg (fun x => h x.1)]
theorem tt_eq_true {p : Prop} : tt p = true ↔ p := by
  by_cases h : p
  · exact ⟨fun _ => h, fun _ => tt_pos h⟩
  · refine ⟨fun e => ?_, fun h' => absurd h' h⟩
    rw [tt_neg h] at e
    cases e
theorem ev_all {L : Int → Nat → Option Bool} {P : Int → Prop} {n : Int} {fin : Bool} (h1 : ∀ i, 0 ≤ i → i < n → P i → ∀ r, Ev (L (i + 1)) r → Ev (L i) r) (h2 : ∀ i, 0 ≤ i → i < n → ¬ P i → Ev (L i) false) (h3 : Ev (L n) fin) :
    ∀ (d : Nat) (i : Int), 0 ≤ i → i + d = n → Ev (L i) (fin && tt (∀ j, i ≤ j → j < n → P j))
  | 0, i, h0, hd => by
    have e : i = n := by omega
    rw [e, tt_pos (fun j h1 h2 => by omega), Bool.and_true]
    exact h3
  | d + 1, i, h0, hd => by
    by_cases hp : P i
    · have := h1 i h0 (by omega) hp _ (ev_all h1 h2 h3 d (i + 1) (by omega) (by omega))
      refine Ev_eq this ?_
      congr 1
      exact tt_iff ⟨fun h j h1 h2 => by
        by_cases e : j = i
        · rw [e]; exact hp
        · exact h j (by omega) h2, fun h j h1 h2 => h j (by omega) h2⟩
    · rw [tt_neg (fun h => hp (h i (Int.le_refl _) (by omega))), Bool.and_false]
      exact h2 i h0 (by omega) hp
theorem impl_isKind_eq (k : Int) : impl_isKind.f k = some (decide (0 ≤ k ∧ k ≤ 3)) := by
  unfold impl_isKind.f
  rw [within_eq]; rfl
/-- A demand is right at its place. -/
def PT (l : List S135) (i : Int) : Prop := (0 ≤ (rd_T135 l i).f0 ∧ (rd_T135 l i).f0 ≤ 3) ∧ (20 ≤ (rd_T135 l i).f1 ∧ (rd_T135 l i).f1 ≤ 300) ∧ (0 ≤ (rd_T135 l i).f2 ∧ (rd_T135 l i).f2 ≤ 10000) ∧
  (0 < i → (rd_T135 l (i - 1)).f0 < (rd_T135 l i).f0 ∨ (rd_T135 l (i - 1)).f0 = (rd_T135 l i).f0 ∧ (rd_T135 l (i - 1)).f1 < (rd_T135 l i).f1 ∧ (rd_T135 l (i - 1)).f2 ≤ (rd_T135 l i).f2)
def PTab (l : List S135) : Prop := l.length ≤ 12 ∧ ∀ j : Int, 0 ≤ j → j < l.length → PT l j
theorem before_eq (a b c d e f : Int) : spec_l16Before.f a b c d e f = some (decide (a < d ∨ a = d ∧ b < e)) := by
  unfold spec_l16Before.f
  by_cases h : a < d
  · simp [h]
  · by_cases h2 : a = d <;> simp [h, h2]
theorem spec_IsTable_j1 (l : List S135) (hn : l.length ≤ 140737488351232) (i : Int) (h0 : 0 ≤ i) (h1 : i < l.length)
    (hf : (0 ≤ (rd_T135 l i).f0 ∧ (rd_T135 l i).f0 ≤ 3) ∧ (20 ≤ (rd_T135 l i).f1 ∧ (rd_T135 l i).f1 ≤ 300) ∧ (0 ≤ (rd_T135 l i).f2 ∧ (rd_T135 l i).f2 ≤ 10000)) :
    (PT l i → ∀ r, Ev (fun k => spec_IsTable.l0 k l (i + 1)) r → Ev (fun k => spec_IsTable.j1 k l i false (rd_T135 l i).f0 (rd_T135 l i).f1 (rd_T135 l i).f2) r) ∧
    (¬ PT l i → Ev (fun k => spec_IsTable.j1 k l i false (rd_T135 l i).f0 (rd_T135 l i).f1 (rd_T135 l i).f2) false) := by
  by_cases hi : i > 0
  · have w1 : wrap64 (i - 1) = i - 1 := w64 (by omega)
    have w2 : wrap64 (i + 1) = i + 1 := w64 (by omega)
    refine ⟨fun hp r hr => ?_, fun hp => ?_⟩
    · refine Ev_shift ?_
      simp only [spec_IsTable.j1, Bool.false_eq_true, if_false, if_pos hi, w1, w2, if_pos (show 0 ≤ i - 1 by omega), if_pos (show i - 1 < (l.length : Int) by omega), before_eq, Option.bind_some, decide_eq_true_eq]
      rcases hp.2.2.2 hi with h | ⟨h, h2, h3⟩
      · simp only [if_pos (show (rd_T135 l (i - 1)).f0 < (rd_T135 l i).f0 ∨ (rd_T135 l (i - 1)).f0 = (rd_T135 l i).f0 ∧ (rd_T135 l (i - 1)).f1 < (rd_T135 l i).f1 from .inl h), if_neg (show ¬ (rd_T135 l (i - 1)).f0 = (rd_T135 l i).f0 by omega)]
        exact hr
      · simp only [if_pos (show (rd_T135 l (i - 1)).f0 < (rd_T135 l i).f0 ∨ (rd_T135 l (i - 1)).f0 = (rd_T135 l i).f0 ∧ (rd_T135 l (i - 1)).f1 < (rd_T135 l i).f1 from .inr ⟨h, h2⟩), if_pos h, if_neg (show ¬ (rd_T135 l (i - 1)).f2 > (rd_T135 l i).f2 by omega)]
        exact hr
    · refine Ev_shift ?_
      simp only [spec_IsTable.j1, Bool.false_eq_true, if_false, if_pos hi, w1, w2, if_pos (show 0 ≤ i - 1 by omega), if_pos (show i - 1 < (l.length : Int) by omega), before_eq, Option.bind_some, decide_eq_true_eq]
      by_cases hb : (rd_T135 l (i - 1)).f0 < (rd_T135 l i).f0 ∨ (rd_T135 l (i - 1)).f0 = (rd_T135 l i).f0 ∧ (rd_T135 l (i - 1)).f1 < (rd_T135 l i).f1
      · have h2 : (rd_T135 l (i - 1)).f0 = (rd_T135 l i).f0 := by
          rcases hb with h | h
          · exact absurd ⟨hf.1, hf.2.1, hf.2.2, fun _ => .inl h⟩ hp
          · exact h.1
        have h3 : (rd_T135 l (i - 1)).f2 > (rd_T135 l i).f2 := by
          rcases hb with h | h
          · omega
          · by_cases h4 : (rd_T135 l (i - 1)).f2 ≤ (rd_T135 l i).f2
            · exact absurd ⟨hf.1, hf.2.1, hf.2.2, fun _ => .inr ⟨h.1, h.2, h4⟩⟩ hp
            · omega
        simp only [if_pos hb, if_pos h2, if_pos h3]
        exact Ev.now _
      · simp only [if_neg hb]
        exact Ev.now _
  · refine ⟨fun hp r hr => ?_, fun hp => absurd ⟨hf.1, hf.2.1, hf.2.2, fun h => absurd h hi⟩ hp⟩
    refine Ev_shift ?_
    simp only [spec_IsTable.j1, Bool.false_eq_true, if_false, if_neg hi, w64 (n := i + 1) (by omega)]
    exact hr
theorem spec_IsTable_ev (l : List S135) (hn : l.length ≤ 140737488351232) : Ev (fun k => spec_IsTable.f k l) (tt (PTab l)) := by
  unfold spec_IsTable.f
  have bad : ∀ i a b c, Ev (fun k => spec_IsTable.j1 k l i true a b c) false := fun i a b c => by
    refine Ev_shift ?_
    simp only [spec_IsTable.j1, if_true]
    exact Ev.now _
  have := ev_all (L := fun i k => spec_IsTable.l0 k l i) (P := PT l) (n := l.length) (fin := decide (l.length ≤ 12)) (fun i h0 h1 hp r hr => ?_) (fun i h0 h1 hp => ?_) ?_ l.length 0 (by omega) (by omega)
  · refine Ev_eq this ?_
    rw [← tt_dec, tt_and]
    exact tt_iff ⟨fun h => ⟨h.1, fun j h0 h1 => h.2 j h0 h1⟩, fun h => ⟨h.1, fun j h0 h1 => h.2 j h0 h1⟩⟩
  · refine Ev_shift ?_
    simp only [spec_IsTable.l0, if_pos h1, if_pos h0, l01In_eq, Option.bind_some, decide_eq_true_eq, if_pos hp.1, if_pos hp.2.1, decide_eq_true hp.2.2.1, Bool.not_true]
    exact (spec_IsTable_j1 l hn i h0 h1 ⟨hp.1, hp.2.1, hp.2.2.1⟩).1 hp r hr
  · refine Ev_shift ?_
    simp only [spec_IsTable.l0, if_pos h1, if_pos h0, l01In_eq, Option.bind_some, decide_eq_true_eq]
    by_cases c1 : 0 ≤ (rd_T135 l i).f0 ∧ (rd_T135 l i).f0 ≤ 3
    · by_cases c2 : 20 ≤ (rd_T135 l i).f1 ∧ (rd_T135 l i).f1 ≤ 300
      · by_cases c3 : 0 ≤ (rd_T135 l i).f2 ∧ (rd_T135 l i).f2 ≤ 10000
        · simp only [if_pos c1, if_pos c2, decide_eq_true c3, Bool.not_true]
          exact (spec_IsTable_j1 l hn i h0 h1 ⟨c1, c2, c3⟩).2 hp
        · simp only [if_pos c1, if_pos c2, decide_eq_false c3, Bool.not_false]
          exact bad _ _ _ _
      · simp only [if_pos c1, if_neg c2]
        exact bad _ _ _ _
    · simp only [if_neg c1]
      exact bad _ _ _ _
  · refine Ev_shift ?_
    simp only [spec_IsTable.l0, if_neg (show ¬ (l.length : Int) < l.length by omega)]
    exact Ev_some (by congr 1; exact propext ⟨fun h => by omega, fun h => by omega⟩)
theorem impl_IsTable_j1 (l : List S135) (hn : l.length ≤ 140737488351232) (i : Int) (h0 : 0 ≤ i) (h1 : i < l.length)
    (hf : (0 ≤ (rd_T135 l i).f0 ∧ (rd_T135 l i).f0 ≤ 3) ∧ (20 ≤ (rd_T135 l i).f1 ∧ (rd_T135 l i).f1 ≤ 300) ∧ (0 ≤ (rd_T135 l i).f2 ∧ (rd_T135 l i).f2 ≤ 10000)) :
    (PT l i → ∀ r, Ev (fun k => impl_IsTable.l0 k l l l.length (i + 1)) r → Ev (fun k => impl_IsTable.j1 k l i l l.length i false (rd_T135 l i).f0 (rd_T135 l i).f1 (rd_T135 l i).f2) r) ∧
    (¬ PT l i → Ev (fun k => impl_IsTable.j1 k l i l l.length i false (rd_T135 l i).f0 (rd_T135 l i).f1 (rd_T135 l i).f2) false) := by
  by_cases hi : i > 0
  · have w1 : wrap64 (i - 1) = i - 1 := w64 (by omega)
    have w2 : wrap64 (i + 1) = i + 1 := w64 (by omega)
    refine ⟨fun hp r hr => ?_, fun hp => ?_⟩
    · refine Ev_shift ?_
      simp only [impl_IsTable.j1, Bool.false_eq_true, if_false, if_neg (show ¬ i = 0 by omega), w1, w2, if_pos (show 0 ≤ i - 1 by omega), if_pos (show i - 1 < (l.length : Int) by omega)]
      rcases hp.2.2.2 hi with h | ⟨h, h2, h3⟩
      · simp only [if_neg (show ¬ (rd_T135 l (i - 1)).f0 > (rd_T135 l i).f0 by omega), if_neg (show ¬ (rd_T135 l (i - 1)).f0 = (rd_T135 l i).f0 by omega)]
        exact hr
      · simp only [if_neg (show ¬ (rd_T135 l (i - 1)).f0 > (rd_T135 l i).f0 by omega), if_pos h, if_neg (show ¬ (rd_T135 l (i - 1)).f1 ≥ (rd_T135 l i).f1 by omega), if_neg (show ¬ (rd_T135 l (i - 1)).f2 > (rd_T135 l i).f2 by omega)]
        exact hr
    · refine Ev_shift ?_
      simp only [impl_IsTable.j1, Bool.false_eq_true, if_false, if_neg (show ¬ i = 0 by omega), w1, w2, if_pos (show 0 ≤ i - 1 by omega), if_pos (show i - 1 < (l.length : Int) by omega)]
      by_cases c1 : (rd_T135 l (i - 1)).f0 > (rd_T135 l i).f0
      · simp only [if_pos c1]
        exact Ev.now _
      · by_cases c2 : (rd_T135 l (i - 1)).f0 = (rd_T135 l i).f0
        · by_cases c3 : (rd_T135 l (i - 1)).f1 ≥ (rd_T135 l i).f1
          · simp only [if_neg c1, if_pos c2, if_pos c3]
            exact Ev.now _
          · by_cases c4 : (rd_T135 l (i - 1)).f2 > (rd_T135 l i).f2
            · simp only [if_neg c1, if_pos c2, if_neg c3, if_pos c4]
              exact Ev.now _
            · exact absurd ⟨hf.1, hf.2.1, hf.2.2, fun _ => .inr ⟨c2, by omega, by omega⟩⟩ hp
        · exact absurd ⟨hf.1, hf.2.1, hf.2.2, fun _ => .inl (by omega)⟩ hp
  · refine ⟨fun hp r hr => ?_, fun hp => absurd ⟨hf.1, hf.2.1, hf.2.2, fun h => absurd h hi⟩ hp⟩
    refine Ev_shift ?_
    simp only [impl_IsTable.j1, Bool.false_eq_true, if_false, if_pos (show i = 0 by omega), w64 (n := i + 1) (by omega)]
    exact hr
theorem impl_isCalibre_eq (c : Int) : impl_isCalibre.f c = some (decide (20 ≤ c ∧ c ≤ 300)) := by
  unfold impl_isCalibre.f
  rw [within_eq]; rfl
theorem impl_IsTable_ev (l : List S135) (hn : l.length ≤ 140737488351232) : Ev (fun k => impl_IsTable.f k l) (tt (PTab l)) := by
  unfold impl_IsTable.f
  by_cases hl : (l.length : Int) > 12
  · simp only [if_pos hl]
    exact Ev_some (tt_neg (fun h => by have := h.1; omega)).symm
  · simp only [if_neg hl]
    have bad : ∀ i a b c, Ev (fun k => impl_IsTable.j1 k l i l l.length i true a b c) false := fun i a b c => by
      refine Ev_shift ?_
      simp only [impl_IsTable.j1, if_true]
      exact Ev.now _
    have := ev_all (L := fun i k => impl_IsTable.l0 k l l l.length i) (P := PT l) (n := l.length) (fin := true) (fun i h0 h1 hp r hr => ?_) (fun i h0 h1 hp => ?_) ?_ l.length 0 (by omega) (by omega)
    · refine Ev_eq this ?_
      rw [Bool.true_and]
      exact tt_iff ⟨fun h => ⟨by omega, fun j h0 h1 => h j h0 h1⟩, fun h j h0 h1 => h.2 j h0 h1⟩
    · refine Ev_shift ?_
      simp only [impl_IsTable.l0, if_pos h1, if_pos h0, impl_isKind_eq, impl_isCalibre_eq, within_eq, Option.bind_some, decide_eq_true_eq, if_pos hp.1, if_pos hp.2.1, decide_eq_true hp.2.2.1, Bool.not_true]
      exact (impl_IsTable_j1 l hn i h0 h1 ⟨hp.1, hp.2.1, hp.2.2.1⟩).1 hp r hr
    · refine Ev_shift ?_
      simp only [impl_IsTable.l0, if_pos h1, if_pos h0, impl_isKind_eq, impl_isCalibre_eq, within_eq, Option.bind_some, decide_eq_true_eq]
      by_cases c1 : 0 ≤ (rd_T135 l i).f0 ∧ (rd_T135 l i).f0 ≤ 3
      · by_cases c2 : 20 ≤ (rd_T135 l i).f1 ∧ (rd_T135 l i).f1 ≤ 300
        · by_cases c3 : 0 ≤ (rd_T135 l i).f2 ∧ (rd_T135 l i).f2 ≤ 10000
          · simp only [if_pos c1, if_pos c2, decide_eq_true c3, Bool.not_true]
            exact (impl_IsTable_j1 l hn i h0 h1 ⟨c1, c2, c3⟩).2 hp
          · simp only [if_pos c1, if_pos c2, decide_eq_false c3, Bool.not_false]
            exact bad _ _ _ _
        · simp only [if_pos c1, if_neg c2]
          exact bad _ _ _ _
      · simp only [if_neg c1]
        exact bad _ _ _ _
    · refine Ev_shift ?_
      simp only [impl_IsTable.l0, if_neg (show ¬ (l.length : Int) < l.length by omega)]
      exact Ev.now _
/-- The distance that a table asks for a calibre and a kind, -1 if it is forbidden. -/
def distM (cal kind : Int) : List S135 → Int → Int
  | [], acc => acc
  | d :: s, acc => if d.f0 = kind then (if d.f1 ≥ cal then d.f2 else distM cal kind s (-1)) else distM cal kind s acc
theorem spec_dist_l0 (l : List S135) (hn : l.length ≤ 140737488351232) (cal kind : Int) : ∀ (s : List S135) (i acc : Int), 0 ≤ i → l.drop i.toNat = s → Ev (fun k => spec_l16Distance.l0 k l cal kind acc i) (distM cal kind s acc)
  | [], i, acc, h0, h => by
    refine Ev_shift ?_
    simp only [spec_l16Distance.l0, if_neg (drop_nil h0 h)]
    exact Ev.now _
  | a :: s, i, acc, h0, h => by
    refine Ev_shift ?_
    obtain ⟨h1, h2, h3⟩ := drop_cons z135 h0 h
    have h2' : rd_T135 l i = a := h2
    unfold distM
    by_cases c1 : a.f0 = kind
    · by_cases c2 : a.f1 ≥ cal
      · simp only [spec_l16Distance.l0, if_pos h1, if_pos h0, h2', if_pos c1, if_pos c2]
        exact Ev.now _
      · simp only [spec_l16Distance.l0, if_pos h1, if_pos h0, h2', if_pos c1, if_neg c2, w64 (n := i + 1) (by omega)]
        exact spec_dist_l0 l hn cal kind s (i + 1) (-1) (by omega) h3
    · simp only [spec_l16Distance.l0, if_pos h1, if_pos h0, h2', if_neg c1, w64 (n := i + 1) (by omega)]
      exact spec_dist_l0 l hn cal kind s (i + 1) acc (by omega) h3
theorem spec_dist (l : List S135) (hn : l.length ≤ 140737488351232) (cal kind : Int) : Ev (fun k => spec_l16Distance.f k l cal kind) (distM cal kind l 0) := by
  unfold spec_l16Distance.f
  exact spec_dist_l0 l hn cal kind l 0 0 (by omega) rfl
theorem impl_dist_l0 (l : List S135) (hn : l.length ≤ 140737488351232) (cal kind : Int) : ∀ (s : List S135) (i acc : Int), 0 ≤ i → l.drop i.toNat = s → Ev (fun k => impl_distanceFor.l0 k cal kind acc l l.length i) (distM cal kind s acc)
  | [], i, acc, h0, h => by
    refine Ev_shift ?_
    simp only [impl_distanceFor.l0, if_neg (drop_nil h0 h)]
    exact Ev.now _
  | a :: s, i, acc, h0, h => by
    refine Ev_shift ?_
    obtain ⟨h1, h2, h3⟩ := drop_cons z135 h0 h
    have h2' : rd_T135 l i = a := h2
    unfold distM
    by_cases c1 : a.f0 = kind
    · by_cases c2 : a.f1 ≥ cal
      · simp only [impl_distanceFor.l0, if_pos h1, if_pos h0, h2', if_pos c1, if_pos c2]
        exact Ev.now _
      · simp only [impl_distanceFor.l0, if_pos h1, if_pos h0, h2', if_pos c1, if_neg c2, w64 (n := i + 1) (by omega)]
        exact impl_dist_l0 l hn cal kind s (i + 1) (-1) (by omega) h3
    · simp only [impl_distanceFor.l0, if_pos h1, if_pos h0, h2', if_neg c1, w64 (n := i + 1) (by omega)]
      exact impl_dist_l0 l hn cal kind s (i + 1) acc (by omega) h3
theorem impl_dist (l : List S135) (hn : l.length ≤ 140737488351232) (cal kind : Int) : Ev (fun k => impl_distanceFor.f k l cal kind) (distM cal kind l 0) := by
  unfold impl_distanceFor.f
  exact impl_dist_l0 l hn cal kind l 0 0 (by omega) rfl
theorem agree_DistanceFor (m0 : List S135) (a1 : Int) (a2 : Int) (hn0 : m0.length ≤ 1000000) (hq0 : ∀ x ∈ m0, (I64 x.f0 ∧ I64 x.f1 ∧ I64 x.f2)) (q1 : I64 a1) (q2 : I64 a2) : ∃ (K : Nat) (r1 : Int) (r2 : Int), ∀ k, K ≤ k → spec_DistanceFor.f k m0 a1 a2 = some (r1, r2) ∧ impl_DistanceFor.f k m0 a1 a2 = some (r1, r2) := by
  have fin : ∀ q : Int × Int, Ev (fun k => spec_DistanceFor.f k m0 a1 a2) q → Ev (fun k => impl_DistanceFor.f k m0 a1 a2) q → ∃ (K : Nat) (r1 : Int) (r2 : Int), ∀ k, K ≤ k → spec_DistanceFor.f k m0 a1 a2 = some (r1, r2) ∧ impl_DistanceFor.f k m0 a1 a2 = some (r1, r2) := by
    rintro ⟨x, y⟩ e1 e2
    obtain ⟨K, hk⟩ := Ev_both e1 e2
    exact ⟨K, x, y, hk⟩
  have hs := spec_IsTable_ev m0 (by omega)
  have hi := impl_IsTable_ev m0 (by omega)
  have bad : Ev (fun k => impl_DistanceFor.j0 k m0 a1 a2 true) ((0 : Int), (2 : Int)) := by
    refine Ev_shift ?_
    simp only [impl_DistanceFor.j0, if_true]
    exact Ev.now _
  by_cases h : PTab m0
  · by_cases c1 : 20 ≤ a1 ∧ a1 ≤ 300
    · by_cases c2 : 0 ≤ a2 ∧ a2 ≤ 3
      · refine fin (if distM a1 a2 m0 0 < 0 then (0, 5) else (distM a1 a2 m0 0, 0)) ?_ ?_
        · unfold spec_DistanceFor.f spec_l16Table.f
          refine Ev.bind (Ev.bind hs (r := (0 : Int)) ?_) ?_
          · simp only [tt_pos h, if_true, l01In_eq, Option.bind_some, decide_eq_true_eq, if_pos c1, if_pos c2]
            exact Ev.now _
          · simp only [if_true]
            refine Ev.bind (spec_dist m0 (by omega) a1 a2) ?_
            split <;> exact Ev.now _
        · unfold impl_DistanceFor.f
          refine Ev.bind hi ?_
          simp only [tt_pos h, if_true, impl_isCalibre_eq, impl_isKind_eq, Option.bind_some, decide_eq_true_eq, if_pos c1, decide_eq_true c2, Bool.not_true]
          refine Ev_shift ?_
          simp only [impl_DistanceFor.j0, Bool.false_eq_true, if_false]
          refine Ev.bind (impl_dist m0 (by omega) a1 a2) ?_
          split <;> exact Ev.now _
      · refine fin (0, 2) ?_ ?_
        · unfold spec_DistanceFor.f spec_l16Table.f
          refine Ev.bind (Ev.bind hs (r := (2 : Int)) ?_) (Ev.now _)
          simp only [tt_pos h, if_true, l01In_eq, Option.bind_some, decide_eq_true_eq, if_pos c1, if_neg c2]
          exact Ev.now _
        · unfold impl_DistanceFor.f
          refine Ev.bind hi ?_
          simp only [tt_pos h, if_true, impl_isCalibre_eq, impl_isKind_eq, Option.bind_some, decide_eq_true_eq, if_pos c1, decide_eq_false c2, Bool.not_false]
          exact bad
    · refine fin (0, 2) ?_ ?_
      · unfold spec_DistanceFor.f spec_l16Table.f
        refine Ev.bind (Ev.bind hs (r := (2 : Int)) ?_) (Ev.now _)
        simp only [tt_pos h, if_true, l01In_eq, Option.bind_some, decide_eq_true_eq, if_neg c1]
        exact Ev.now _
      · unfold impl_DistanceFor.f
        refine Ev.bind hi ?_
        simp only [tt_pos h, if_true, impl_isCalibre_eq, impl_isKind_eq, Option.bind_some, decide_eq_true_eq, if_neg c1]
        exact bad
  · refine fin (0, 1) ?_ ?_
    · unfold spec_DistanceFor.f spec_l16Table.f
      refine Ev.bind (Ev.bind hs (r := (1 : Int)) ?_) (Ev.now _)
      simp only [tt_neg h, Bool.false_eq_true, if_false]
      exact Ev.now _
    · unfold impl_DistanceFor.f
      refine Ev.bind hi ?_
      simp only [tt_neg h, Bool.false_eq_true, if_false]
      exact Ev.now _
end Go.Proofs.Ytdkibmdpipoioaa.Pure
