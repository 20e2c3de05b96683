/- The plain law of FnExactWidenTable: what the printed functions compute, without Go and memory. No condition but the bounds that stand in it. -/
import Derived.Test.YtmemamokmeonjaaPFnExactWidenTablex0
import Derived.Test.YtmemamokmeonjaaQFnExactWidenTablea
import Derived.Test.YtmemamokmeonjaaQFnExactWidenTableb
import Derived.Test.YtmemamokmeonjaaQFnExactWidenTablec
import Derived.Test.YtmemamokmeonjaaQFnExactWidenTabled
import Derived.Test.YtmemamokmeonjaaQFnExactWidenTablee
import Derived.Test.YtmemamokmeonjaaOpen
namespace Go.Proofs.Ytmemamokmeonjaa.Pure
open Go.RowKit Go.Proofs.Ytmemamokmeonjaa.PFnExactWidenTable Go.Proofs.YtmemamokmeonjaaW.PrintWords Go.Proofs.YtmemamokmeonjaaW.PrintLast Go.Proofs.Ytmemamokmeonjaa.Opening
set_option linter.unusedVariables false
set_option linter.unusedSimpArgs false
theorem w64 {n : Int} (h : -9223372036854775808 ≤ n ∧ n ≤ 9223372036854775807) : wrap64 n = n := by
  unfold wrap64
  omega
theorem l01In_eq (a b c : Int) : spec_l01In.f a b c = some (decide (b ≤ a ∧ a ≤ c)) := by
  unfold spec_l01In.f
  by_cases h : b ≤ a <;> simp [h]
theorem within_eq (a b c : Int) : impl_within.f a b c = some (decide (b ≤ a ∧ a ≤ c)) := by
  unfold impl_within.f
  by_cases h : b ≤ a <;> simp [h]
theorem Ev_shift {α : Type} {g : Nat → Option α} {r : α} (h : Ev (fun k => g (k + 1)) r) : Ev g r := Ev.step (fun _ => rfl) h
theorem Ev_both {α β : Type} {g : Nat → Option α} {f : Nat → Option β} {r : α} {q : β} (h1 : Ev g r) (h2 : Ev f q) : ∃ K, ∀ k, K ≤ k → g k = some r ∧ f k = some q := by
  obtain ⟨K, h1⟩ := h1
  obtain ⟨K', h2⟩ := h2
  exact ⟨max K K', fun k hk => ⟨h1 k (by omega), h2 k (by omega)⟩⟩
theorem Ev_eq {α : Type} {g : Nat → Option α} {r q : α} (h : Ev g r) (e : r = q) : Ev g q := e ▸ h
theorem Ev_some {α : Type} {r q : α} (e : r = q) : Ev (fun _ => some r) q := e ▸ Ev.now r
noncomputable def tt (p : Prop) : Bool := @decide p (Classical.propDecidable p)
theorem tt_pos {p : Prop} (h : p) : tt p = true := by unfold tt; exact @decide_eq_true p (Classical.propDecidable p) h
theorem tt_neg {p : Prop} (h : ¬ p) : tt p = false := by unfold tt; exact @decide_eq_false p (Classical.propDecidable p) h
theorem tt_dec (p : Prop) [i : Decidable p] : tt p = decide p := by
  by_cases h : p
  · rw [tt_pos h, decide_eq_true h]
  · rw [tt_neg h, decide_eq_false h]
theorem tt_iff {p q : Prop} (h : p ↔ q) : tt p = tt q := by rw [propext h]
theorem tt_and (p q : Prop) : (tt p && tt q) = tt (p ∧ q) := by
  by_cases h : p
  · rw [tt_pos h, Bool.true_and]; exact tt_iff ⟨fun x => ⟨h, x⟩, fun x => x.2⟩
  · rw [tt_neg h, Bool.false_and, tt_neg (fun x => h x.1)]
theorem tt_eq_true {p : Prop} : tt p = true ↔ p := by
  by_cases h : p
  · exact ⟨fun _ => h, fun _ => tt_pos h⟩
  · refine ⟨fun e => ?_, fun h' => absurd h' h⟩
    rw [tt_neg h] at e
    cases e
theorem ev_all {L : Int → Nat → Option Bool} {P : Int → Prop} {n : Int} {fin : Bool} (h1 : ∀ i, 0 ≤ i → i < n → P i → ∀ r, Ev (L (i + 1)) r → Ev (L i) r) (h2 : ∀ i, 0 ≤ i → i < n → ¬ P i → Ev (L i) false) (h3 : Ev (L n) fin) :
    ∀ (d : Nat) (i : Int), 0 ≤ i → i + d = n → Ev (L i) (fin && tt (∀ j, i ≤ j → j < n → P j))
  | 0, i, h0, hd => by
    have e : i = n := by omega
    rw [e, tt_pos (fun j h1 h2 => by omega), Bool.and_true]
    exact h3
  | d + 1, i, h0, hd => by
    by_cases hp : P i
    · have := h1 i h0 (by omega) hp _ (ev_all h1 h2 h3 d (i + 1) (by omega) (by omega))
      refine Ev_eq this ?_
      congr 1
      exact tt_iff ⟨fun h j h1 h2 => by
        by_cases e : j = i
        · rw [e]; exact hp
        · exact h j (by omega) h2, fun h j h1 h2 => h j (by omega) h2⟩
    · rw [tt_neg (fun h => hp (h i (Int.le_refl _) (by omega))), Bool.and_false]
      exact h2 i h0 (by omega) hp
theorem impl_isKind_eq (k : Int) : impl_isKind.f k = some (decide (0 ≤ k ∧ k ≤ 3)) := by
  unfold impl_isKind.f
  rw [within_eq]; rfl
/-- A demand is right at its place. -/
def PT (l : List S68) (i : Int) : Prop := (0 ≤ (rd_T68 l i).f0 ∧ (rd_T68 l i).f0 ≤ 3) ∧ (20 ≤ (rd_T68 l i).f1 ∧ (rd_T68 l i).f1 ≤ 300) ∧ (0 ≤ (rd_T68 l i).f2 ∧ (rd_T68 l i).f2 ≤ 10000) ∧
  (0 < i → (rd_T68 l (i - 1)).f0 < (rd_T68 l i).f0 ∨ (rd_T68 l (i - 1)).f0 = (rd_T68 l i).f0 ∧ (rd_T68 l (i - 1)).f1 < (rd_T68 l i).f1 ∧ (rd_T68 l (i - 1)).f2 ≤ (rd_T68 l i).f2)
def PTab (l : List S68) : Prop := l.length ≤ 12 ∧ ∀ j : Int, 0 ≤ j → j < l.length → PT l j
theorem before_eq (a b c d e f : Int) : spec_l16Before.f a b c d e f = some (decide (a < d ∨ a = d ∧ b < e)) := by
  unfold spec_l16Before.f
  by_cases h : a < d
  · simp [h]
  · by_cases h2 : a = d <;> simp [h, h2]
theorem spec_IsTable_j1 (l : List S68) (hn : l.length ≤ 140737488351232) (i : Int) (h0 : 0 ≤ i) (h1 : i < l.length)
    (hf : (0 ≤ (rd_T68 l i).f0 ∧ (rd_T68 l i).f0 ≤ 3) ∧ (20 ≤ (rd_T68 l i).f1 ∧ (rd_T68 l i).f1 ≤ 300) ∧ (0 ≤ (rd_T68 l i).f2 ∧ (rd_T68 l i).f2 ≤ 10000)) :
    (PT l i → ∀ r, Ev (fun k => spec_IsTable.l0 k l (i + 1)) r → Ev (fun k => spec_IsTable.j1 k l i false (rd_T68 l i).f0 (rd_T68 l i).f1 (rd_T68 l i).f2) r) ∧
    (¬ PT l i → Ev (fun k => spec_IsTable.j1 k l i false (rd_T68 l i).f0 (rd_T68 l i).f1 (rd_T68 l i).f2) false) := by
  by_cases hi : i > 0
  · have w1 : wrap64 (i - 1) = i - 1 := w64 (by omega)
    have w2 : wrap64 (i + 1) = i + 1 := w64 (by omega)
    refine ⟨fun hp r hr => ?_, fun hp => ?_⟩
    · refine Ev_shift ?_
      simp only [spec_IsTable.j1, Bool.false_eq_true, if_false, if_pos hi, w1, w2, if_pos (show 0 ≤ i - 1 by omega), if_pos (show i - 1 < (l.length : Int) by omega), before_eq, Option.bind_some, decide_eq_true_eq]
      rcases hp.2.2.2 hi with h | ⟨h, h2, h3⟩
      · simp only [if_pos (show (rd_T68 l (i - 1)).f0 < (rd_T68 l i).f0 ∨ (rd_T68 l (i - 1)).f0 = (rd_T68 l i).f0 ∧ (rd_T68 l (i - 1)).f1 < (rd_T68 l i).f1 from .inl h), if_neg (show ¬ (rd_T68 l (i - 1)).f0 = (rd_T68 l i).f0 by omega)]
        exact hr
      · simp only [if_pos (show (rd_T68 l (i - 1)).f0 < (rd_T68 l i).f0 ∨ (rd_T68 l (i - 1)).f0 = (rd_T68 l i).f0 ∧ (rd_T68 l (i - 1)).f1 < (rd_T68 l i).f1 from .inr ⟨h, h2⟩), if_pos h, if_neg (show ¬ (rd_T68 l (i - 1)).f2 > (rd_T68 l i).f2 by omega)]
        exact hr
    · refine Ev_shift ?_
      simp only [spec_IsTable.j1, Bool.false_eq_true, if_false, if_pos hi, w1, w2, if_pos (show 0 ≤ i - 1 by omega), if_pos (show i - 1 < (l.length : Int) by omega), before_eq, Option.bind_some, decide_eq_true_eq]
      by_cases hb : (rd_T68 l (i - 1)).f0 < (rd_T68 l i).f0 ∨ (rd_T68 l (i - 1)).f0 = (rd_T68 l i).f0 ∧ (rd_T68 l (i - 1)).f1 < (rd_T68 l i).f1
      · have h2 : (rd_T68 l (i - 1)).f0 = (rd_T68 l i).f0 := by
          rcases hb with h | h
          · exact absurd ⟨hf.1, hf.2.1, hf.2.2, fun _ => .inl h⟩ hp
          · exact h.1
        have h3 : (rd_T68 l (i - 1)).f2 > (rd_T68 l i).f2 := by
          rcases hb with h | h
          · omega
          · by_cases h4 : (rd_T68 l (i - 1)).f2 ≤ (rd_T68 l i).f2
            · exact absurd ⟨hf.1, hf.2.1, hf.2.2, fun _ => .inr ⟨h.1, h.2, h4⟩⟩ hp
            · omega
        simp only [if_pos hb, if_pos h2, if_pos h3]
        exact Ev.now _
      · simp only [if_neg hb]
        exact Ev.now _
  · refine ⟨fun hp r hr => ?_, fun hp => absurd ⟨hf.1, hf.2.1, hf.2.2, fun h => absurd h hi⟩ hp⟩
    refine Ev_shift ?_
    simp only [spec_IsTable.j1, Bool.false_eq_true, if_false, if_neg hi, w64 (n := i + 1) (by omega)]
    exact hr
theorem spec_IsTable_ev (l : List S68) (hn : l.length ≤ 140737488351232) : Ev (fun k => spec_IsTable.f k l) (tt (PTab l)) := by
  unfold spec_IsTable.f
  have bad : ∀ i a b c, Ev (fun k => spec_IsTable.j1 k l i true a b c) false := fun i a b c => by
    refine Ev_shift ?_
    simp only [spec_IsTable.j1, if_true]
    exact Ev.now _
  have := ev_all (L := fun i k => spec_IsTable.l0 k l i) (P := PT l) (n := l.length) (fin := decide (l.length ≤ 12)) (fun i h0 h1 hp r hr => ?_) (fun i h0 h1 hp => ?_) ?_ l.length 0 (by omega) (by omega)
  · refine Ev_eq this ?_
    rw [← tt_dec, tt_and]
    exact tt_iff ⟨fun h => ⟨h.1, fun j h0 h1 => h.2 j h0 h1⟩, fun h => ⟨h.1, fun j h0 h1 => h.2 j h0 h1⟩⟩
  · refine Ev_shift ?_
    simp only [spec_IsTable.l0, if_pos h1, if_pos h0, l01In_eq, Option.bind_some, decide_eq_true_eq, if_pos hp.1, if_pos hp.2.1, decide_eq_true hp.2.2.1, Bool.not_true]
    exact (spec_IsTable_j1 l hn i h0 h1 ⟨hp.1, hp.2.1, hp.2.2.1⟩).1 hp r hr
  · refine Ev_shift ?_
    simp only [spec_IsTable.l0, if_pos h1, if_pos h0, l01In_eq, Option.bind_some, decide_eq_true_eq]
    by_cases c1 : 0 ≤ (rd_T68 l i).f0 ∧ (rd_T68 l i).f0 ≤ 3
    · by_cases c2 : 20 ≤ (rd_T68 l i).f1 ∧ (rd_T68 l i).f1 ≤ 300
      · by_cases c3 : 0 ≤ (rd_T68 l i).f2 ∧ (rd_T68 l i).f2 ≤ 10000
        · simp only [if_pos c1, if_pos c2, decide_eq_true c3, Bool.not_true]
          exact (spec_IsTable_j1 l hn i h0 h1 ⟨c1, c2, c3⟩).2 hp
        · simp only [if_pos c1, if_pos c2, decide_eq_false c3, Bool.not_false]
          exact bad _ _ _ _
      · simp only [if_pos c1, if_neg c2]
        exact bad _ _ _ _
    · simp only [if_neg c1]
      exact bad _ _ _ _
  · refine Ev_shift ?_
    simp only [spec_IsTable.l0, if_neg (show ¬ (l.length : Int) < l.length by omega)]
    exact Ev_some (by congr 1; exact propext ⟨fun h => by omega, fun h => by omega⟩)
theorem impl_IsTable_j1 (l : List S68) (hn : l.length ≤ 140737488351232) (i : Int) (h0 : 0 ≤ i) (h1 : i < l.length)
    (hf : (0 ≤ (rd_T68 l i).f0 ∧ (rd_T68 l i).f0 ≤ 3) ∧ (20 ≤ (rd_T68 l i).f1 ∧ (rd_T68 l i).f1 ≤ 300) ∧ (0 ≤ (rd_T68 l i).f2 ∧ (rd_T68 l i).f2 ≤ 10000)) :
    (PT l i → ∀ r, Ev (fun k => impl_IsTable.l0 k l l l.length (i + 1)) r → Ev (fun k => impl_IsTable.j1 k l i l l.length i false (rd_T68 l i).f0 (rd_T68 l i).f1 (rd_T68 l i).f2) r) ∧
    (¬ PT l i → Ev (fun k => impl_IsTable.j1 k l i l l.length i false (rd_T68 l i).f0 (rd_T68 l i).f1 (rd_T68 l i).f2) false) := by
  by_cases hi : i > 0
  · have w1 : wrap64 (i - 1) = i - 1 := w64 (by omega)
    have w2 : wrap64 (i + 1) = i + 1 := w64 (by omega)
    refine ⟨fun hp r hr => ?_, fun hp => ?_⟩
    · refine Ev_shift ?_
      simp only [impl_IsTable.j1, Bool.false_eq_true, if_false, if_neg (show ¬ i = 0 by omega), w1, w2, if_pos (show 0 ≤ i - 1 by omega), if_pos (show i - 1 < (l.length : Int) by omega)]
      rcases hp.2.2.2 hi with h | ⟨h, h2, h3⟩
      · simp only [if_neg (show ¬ (rd_T68 l (i - 1)).f0 > (rd_T68 l i).f0 by omega), if_neg (show ¬ (rd_T68 l (i - 1)).f0 = (rd_T68 l i).f0 by omega)]
        exact hr
      · simp only [if_neg (show ¬ (rd_T68 l (i - 1)).f0 > (rd_T68 l i).f0 by omega), if_pos h, if_neg (show ¬ (rd_T68 l (i - 1)).f1 ≥ (rd_T68 l i).f1 by omega), if_neg (show ¬ (rd_T68 l (i - 1)).f2 > (rd_T68 l i).f2 by omega)]
        exact hr
    · refine Ev_shift ?_
      simp only [impl_IsTable.j1, Bool.false_eq_true, if_false, if_neg (show ¬ i = 0 by omega), w1, w2, if_pos (show 0 ≤ i - 1 by omega), if_pos (show i - 1 < (l.length : Int) by omega)]
      by_cases c1 : (rd_T68 l (i - 1)).f0 > (rd_T68 l i).f0
      · simp only [if_pos c1]
        exact Ev.now _
      · by_cases c2 : (rd_T68 l (i - 1)).f0 = (rd_T68 l i).f0
        · by_cases c3 : (rd_T68 l (i - 1)).f1 ≥ (rd_T68 l i).f1
          · simp only [if_neg c1, if_pos c2, if_pos c3]
            exact Ev.now _
          · by_cases c4 : (rd_T68 l (i - 1)).f2 > (rd_T68 l i).f2
            · simp only [if_neg c1, if_pos c2, if_neg c3, if_pos c4]
              exact Ev.now _
            · exact absurd ⟨hf.1, hf.2.1, hf.2.2, fun _ => .inr ⟨c2, by omega, by omega⟩⟩ hp
        · exact absurd ⟨hf.1, hf.2.1, hf.2.2, fun _ => .inl (by omega)⟩ hp
  · refine ⟨fun hp r hr => ?_, fun hp => absurd ⟨hf.1, hf.2.1, hf.2.2, fun h => absurd h hi⟩ hp⟩
    refine Ev_shift ?_
    simp only [impl_IsTable.j1, Bool.false_eq_true, if_false, if_pos (show i = 0 by omega), w64 (n := i + 1) (by omega)]
    exact hr
theorem impl_isCalibre_eq (c : Int) : impl_isCalibre.f c = some (decide (20 ≤ c ∧ c ≤ 300)) := by
  unfold impl_isCalibre.f
  rw [within_eq]; rfl
theorem impl_IsTable_ev (l : List S68) (hn : l.length ≤ 140737488351232) : Ev (fun k => impl_IsTable.f k l) (tt (PTab l)) := by
  unfold impl_IsTable.f
  by_cases hl : (l.length : Int) > 12
  · simp only [if_pos hl]
    exact Ev_some (tt_neg (fun h => by have := h.1; omega)).symm
  · simp only [if_neg hl]
    have bad : ∀ i a b c, Ev (fun k => impl_IsTable.j1 k l i l l.length i true a b c) false := fun i a b c => by
      refine Ev_shift ?_
      simp only [impl_IsTable.j1, if_true]
      exact Ev.now _
    have := ev_all (L := fun i k => impl_IsTable.l0 k l l l.length i) (P := PT l) (n := l.length) (fin := true) (fun i h0 h1 hp r hr => ?_) (fun i h0 h1 hp => ?_) ?_ l.length 0 (by omega) (by omega)
    · refine Ev_eq this ?_
      rw [Bool.true_and]
      exact tt_iff ⟨fun h => ⟨by omega, fun j h0 h1 => h j h0 h1⟩, fun h j h0 h1 => h.2 j h0 h1⟩
    · refine Ev_shift ?_
      simp only [impl_IsTable.l0, if_pos h1, if_pos h0, impl_isKind_eq, impl_isCalibre_eq, within_eq, Option.bind_some, decide_eq_true_eq, if_pos hp.1, if_pos hp.2.1, decide_eq_true hp.2.2.1, Bool.not_true]
      exact (impl_IsTable_j1 l hn i h0 h1 ⟨hp.1, hp.2.1, hp.2.2.1⟩).1 hp r hr
    · refine Ev_shift ?_
      simp only [impl_IsTable.l0, if_pos h1, if_pos h0, impl_isKind_eq, impl_isCalibre_eq, within_eq, Option.bind_some, decide_eq_true_eq]
      by_cases c1 : 0 ≤ (rd_T68 l i).f0 ∧ (rd_T68 l i).f0 ≤ 3
      · by_cases c2 : 20 ≤ (rd_T68 l i).f1 ∧ (rd_T68 l i).f1 ≤ 300
        · by_cases c3 : 0 ≤ (rd_T68 l i).f2 ∧ (rd_T68 l i).f2 ≤ 10000
          · simp only [if_pos c1, if_pos c2, decide_eq_true c3, Bool.not_true]
            exact (impl_IsTable_j1 l hn i h0 h1 ⟨c1, c2, c3⟩).2 hp
          · simp only [if_pos c1, if_pos c2, decide_eq_false c3, Bool.not_false]
            exact bad _ _ _ _
        · simp only [if_pos c1, if_neg c2]
          exact bad _ _ _ _
      · simp only [if_neg c1]
        exact bad _ _ _ _
    · refine Ev_shift ?_
      simp only [impl_IsTable.l0, if_neg (show ¬ (l.length : Int) < l.length by omega)]
      exact Ev.now _
theorem spec_ceil_eq {a : Int} (h : 0 ≤ a ∧ a ≤ 1000000000000) : spec_l01Ceil.f a 100 = some ((a + 99) / 100) := by
  unfold spec_l01Ceil.f spec_l01Floor.f
  rw [w64 (n := -a) (by omega), if_neg (by omega), if_neg (by omega), Int.neg_tmod, Int.neg_tdiv, Int.tmod_eq_emod_of_nonneg h.1, Int.tdiv_eq_ediv_of_nonneg h.1]
  by_cases c : -(a % 100) < 0
  · rw [if_pos c, w64 (n := -(a / 100)) (by omega), w64 (n := -(a / 100) - 1) (by omega), Option.bind_some, w64 (by omega)]
    congr 1
    omega
  · rw [if_neg c, w64 (n := -(a / 100)) (by omega), Option.bind_some, w64 (by omega)]
    congr 1
    omega
theorem impl_ceil_eq {a : Int} (h : 0 ≤ a ∧ a ≤ 1000000000000) : impl_ceilDiv.f a 100 = some ((a + 99) / 100) := by
  unfold impl_ceilDiv.f
  rw [if_neg (by omega), w64 (n := a + 100) (by omega), w64 (n := a + 100 - 1) (by omega), Int.tdiv_eq_ediv_of_nonneg (by omega), w64 (by omega)]
  congr 1
  omega
theorem table_at {l : List S68} (h : PTab l) : ∀ x ∈ l, (0 ≤ x.f0 ∧ x.f0 ≤ 3) ∧ (20 ≤ x.f1 ∧ x.f1 ≤ 300) ∧ (0 ≤ x.f2 ∧ x.f2 ≤ 10000) := by
  intro x hx
  obtain ⟨i, hi, rfl⟩ := List.mem_iff_getElem.1 hx
  have hp := h.2 (i : Int) (by omega) (by omega)
  have e : rd_T68 l (i : Int) = l[i] := by
    show l.getD _ _ = _
    rw [Int.toNat_natCast, List.getD_eq_getElem?_getD, List.getElem?_eq_getElem hi]
    rfl
  unfold PT at hp
  rw [e] at hp
  exact ⟨hp.1, hp.2.1, hp.2.2.1⟩
/-- A table with greater distances: what is done, what is left. -/
def widM (pc : Int) : List S68 → List S68 → List S68 × Int
  | p, [] => (p, 0)
  | p, d :: s => if d.f2 + (d.f2 * pc + 99) / 100 > 10000 then ([], 3) else widM pc (p ++ [⟨d.f0, d.f1, d.f2 + (d.f2 * pc + 99) / 100⟩]) s
theorem widM_length (pc : Int) : ∀ (s p : List S68), (widM pc p s).1.length ≤ p.length + s.length
  | [], p => by simp [widM]
  | d :: s, p => by
    unfold widM
    split
    · simp
    · have := widM_length pc s (p ++ [⟨d.f0, d.f1, d.f2 + (d.f2 * pc + 99) / 100⟩])
      simp at this ⊢
      omega
theorem set_at_mid {α : Type} (p : List α) (b v : α) (s : List α) : (p ++ b :: s).set ((p.length : Int)).toNat v = p ++ v :: s := by
  rw [Int.toNat_natCast, List.set_append_right _ _ (Nat.le_refl _)]
  simp
theorem getD_at_mid {α : Type} (z : α) (p : List α) (b : α) (s : List α) : (p ++ b :: s).getD ((p.length : Int)).toNat z = b := by
  rw [Int.toNat_natCast, List.getD_eq_getElem?_getD, List.getElem?_append_right (Nat.le_refl _)]
  simp
theorem wid_mul {a pc : Int} (ha : 0 ≤ a ∧ a ≤ 10000) (hp : 0 ≤ pc ∧ pc ≤ 100) : 0 ≤ a * pc ∧ a * pc ≤ 1000000 := by
  have h1 : 0 ≤ a * pc := Int.mul_nonneg ha.1 hp.1
  have h2 : a * pc ≤ a * 100 := Int.mul_le_mul_of_nonneg_left hp.2 ha.1
  omega
theorem spec_wid_l0 {pc : Int} (hp : 0 ≤ pc ∧ pc ≤ 100) : ∀ (s p : List S68), (∀ x ∈ s, 0 ≤ x.f2 ∧ x.f2 ≤ 10000) → p.length + s.length ≤ 1000 → Ev (fun k => spec_WidenTable.l0 k pc (p ++ s) (p.length : Int)) (widM pc p s)
  | [], p, hs, hl => by
    refine Ev_shift ?_
    simp only [spec_WidenTable.l0, List.append_nil, if_neg (show ¬ (p.length : Int) < p.length by omega), widM]
    exact Ev.now _
  | d :: s, p, hs, hl => by
    refine Ev_shift ?_
    have hd := hs d (by simp)
    have hm := wid_mul hd hp
    have hg : rd_T68 (p ++ d :: s) (p.length : Int) = d := getD_at_mid _ p d s
    unfold widM
    simp only [spec_WidenTable.l0, if_pos (show (p.length : Int) < ((p ++ d :: s).length : Int) by simp; omega), if_pos (show 0 ≤ (p.length : Int) by omega), hg, w64 (n := d.f2 * pc) (by omega), spec_ceil_eq (a := d.f2 * pc) (by omega), Option.bind_some, w64 (n := d.f2 + (d.f2 * pc + 99) / 100) (by omega)]
    by_cases c : d.f2 + (d.f2 * pc + 99) / 100 > 10000
    · simp only [if_pos c]
      exact Ev.now _
    · simp only [if_neg c, set_at_mid, w64 (n := (p.length : Int) + 1) (by simp at hl; omega)]
      have := spec_wid_l0 hp s (p ++ [⟨d.f0, d.f1, d.f2 + (d.f2 * pc + 99) / 100⟩]) (fun x hx => hs x (by simp [hx])) (by simp at hl ⊢; omega)
      simpa using this
theorem impl_wid_l0 {pc : Int} (hp : 0 ≤ pc ∧ pc ≤ 100) : ∀ (s p : List S68) (n : Int), n = (p.length + s.length : Nat) → (∀ x ∈ s, 0 ≤ x.f2 ∧ x.f2 ≤ 10000) → p.length + s.length ≤ 1000 → Ev (fun k => impl_WidenTable.l0 k pc (p ++ s) n (p.length : Int)) (widM pc p s)
  | [], p, n, hn, hs, hl => by
    refine Ev_shift ?_
    simp only [impl_WidenTable.l0, List.append_nil, if_neg (show ¬ (p.length : Int) < n by simp at hn; omega), widM]
    exact Ev.now _
  | d :: s, p, n, hn, hs, hl => by
    refine Ev_shift ?_
    have hd := hs d (by simp)
    have hm := wid_mul hd hp
    have hg : rd_T68 (p ++ d :: s) (p.length : Int) = d := getD_at_mid _ p d s
    unfold widM
    simp only [impl_WidenTable.l0, if_pos (show (p.length : Int) < n by simp at hn; omega), if_pos (show (p.length : Int) < ((p ++ d :: s).length : Int) by simp; omega), if_pos (show 0 ≤ (p.length : Int) by omega), hg, Int.mul_comm pc d.f2, w64 (n := d.f2 * pc) (by omega), impl_ceil_eq (a := d.f2 * pc) (by omega), Option.bind_some, w64 (n := d.f2 + (d.f2 * pc + 99) / 100) (by omega)]
    by_cases c : d.f2 + (d.f2 * pc + 99) / 100 > 10000
    · simp only [if_pos c]
      exact Ev.now _
    · simp only [if_neg c, set_at_mid, w64 (n := (p.length : Int) + 1) (by simp at hl; omega)]
      have := impl_wid_l0 hp s (p ++ [⟨d.f0, d.f1, d.f2 + (d.f2 * pc + 99) / 100⟩]) n (by simp at hn ⊢; omega) (fun x hx => hs x (by simp [hx])) (by simp at hl ⊢; omega)
      simpa using this
theorem agree_WidenTable (m0 : List S68) (a1 : Int) (hn0 : m0.length ≤ 1000000) (hq0 : ∀ x ∈ m0, (I64 x.f0 ∧ I64 x.f1 ∧ I64 x.f2)) (q1 : I64 a1) : ∃ (K : Nat) (r1 : List (S68)) (r2 : Int), r1.length ≤ 10000000 ∧ ∀ k, K ≤ k → spec_WidenTable.f k m0 a1 = some (r1, r2) ∧ impl_WidenTable.f k m0 a1 = some (r1, r2) := by
  have fin : ∀ q : List S68 × Int, q.1.length ≤ 10000000 → Ev (fun k => spec_WidenTable.f k m0 a1) q → Ev (fun k => impl_WidenTable.f k m0 a1) q → ∃ (K : Nat) (r1 : List (S68)) (r2 : Int), r1.length ≤ 10000000 ∧ ∀ k, K ≤ k → spec_WidenTable.f k m0 a1 = some (r1, r2) ∧ impl_WidenTable.f k m0 a1 = some (r1, r2) := by
    rintro ⟨x, y⟩ hq e1 e2
    obtain ⟨K, hk⟩ := Ev_both e1 e2
    exact ⟨K, x, y, hq, hk⟩
  have hs := spec_IsTable_ev m0 (by omega)
  have hi := impl_IsTable_ev m0 (by omega)
  by_cases h : PTab m0
  · have hl := h.1
    by_cases c1 : 0 ≤ a1 ∧ a1 ≤ 100
    · have hw := widM_length a1 m0 []
      refine fin (widM a1 [] m0) (by simp at hw; omega) ?_ ?_
      · unfold spec_WidenTable.f
        refine Ev.bind hs ?_
        simp only [tt_pos h, if_true, l01In_eq, Option.bind_some, decide_eq_true_eq, if_pos c1, if_pos (show ([] : List S68).length + m0.length < 5864062014805 by simp; omega)]
        exact spec_wid_l0 c1 m0 [] (fun x hx => (table_at h x hx).2.2) (by simp; omega)
      · unfold impl_WidenTable.f
        refine Ev.bind hi ?_
        simp only [tt_pos h, if_true, within_eq, Option.bind_some, decide_eq_true_eq, if_pos c1, if_pos (show ([] : List S68).length + m0.length < 5864062014805 by simp; omega)]
        exact impl_wid_l0 c1 m0 [] _ (by simp) (fun x hx => (table_at h x hx).2.2) (by simp; omega)
    · refine fin ([], 2) (by simp) ?_ ?_
      · unfold spec_WidenTable.f
        refine Ev.bind hs ?_
        simp only [tt_pos h, if_true, l01In_eq, Option.bind_some, decide_eq_true_eq, if_neg c1]
        exact Ev.now _
      · unfold impl_WidenTable.f
        refine Ev.bind hi ?_
        simp only [tt_pos h, if_true, within_eq, Option.bind_some, decide_eq_true_eq, if_neg c1]
        exact Ev.now _
  · refine fin ([], 1) (by simp) ?_ ?_
    · unfold spec_WidenTable.f
      refine Ev.bind hs ?_
      simp only [tt_neg h, Bool.false_eq_true, if_false]
      exact Ev.now _
    · unfold impl_WidenTable.f
      refine Ev.bind hi ?_
      simp only [tt_neg h, Bool.false_eq_true, if_false]
      exact Ev.now _
end Go.Proofs.Ytmemamokmeonjaa.Pure
