/- PureFnExactMergeTables of the law FnExactMergeTables: taken over, declaration by declaration, as far as the law leans on it (the words and the printed functions are the kit's own print). No condition but what each says. -/
import Derived.Test.YtedcdhnbceaaeaaZFnExactMergeTablesav
import Derived.Test.YtedcdhnbceaaeaaZFnExactMergeTablesax
import Derived.Test.YtedcdhnbceaaeaaZFnExactMergeTablesba
import Derived.Test.YtedcdhnbceaaeaaZFnExactMergeTablesbb
import Derived.Test.YtedcdhnbceaaeaaZFnExactMergeTablesbc
import Derived.Test.YtedcdhnbceaaeaaZFnExactMergeTablesbd
import Derived.Test.YtedcdhnbceaaeaaZFnExactMergeTablesay
namespace Go.Proofs.Ytedcdhnbceaaeaa.Pure
open Go.RowKit Go.Proofs.Ytedcdhnbceaaeaa.PFnExactMergeTables Go.Proofs.YtedcdhnbceaaeaaW.PrintWords Go.Proofs.YtedcdhnbceaaeaaW.PrintLast Go.Proofs.Ytedcdhnbceaaeaa.Opening
set_option linter.unusedVariables false
set_option linter.unusedSimpArgs false
theorem w64 {n : Int} (h : -9223372036854775808 ≤ n ∧ n ≤ 9223372036854775807) : wrap64 n = n := by
  unfold wrap64
  omega
theorem l01In_eq (a b c : Int) : spec_l01In.f a b c = some (decide (b ≤ a ∧ a ≤ c)) := by
  unfold spec_l01In.f
  by_cases h : b ≤ a <;> simp [h]
theorem within_eq (a b c : Int) : impl_within.f a b c = some (decide (b ≤ a ∧ a ≤ c)) := by
  unfold impl_within.f
  by_cases h : b ≤ a <;> simp [h]
theorem drop_cons {α : Type} {l : List α} {i : Int} {a : α} {s : List α} (z : α) (h0 : 0 ≤ i) (h : l.drop i.toNat = a :: s) : i < l.length ∧ l.getD i.toNat z = a ∧ l.drop (i + 1).toNat = s := by
  have hlt : i.toNat < l.length := by
    rcases Nat.lt_or_ge i.toNat l.length with h1 | h1
    · exact h1
    · rw [List.drop_eq_nil_of_le h1] at h; cases h
  rw [List.drop_eq_getElem_cons hlt] at h
  injection h with h1 h2
  refine ⟨by omega, ?_, ?_⟩
  · rw [List.getD_eq_getElem?_getD, List.getElem?_eq_getElem hlt]; exact h1
  · rw [show (i + 1).toNat = i.toNat + 1 by omega]; exact h2
theorem Ev_shift {α : Type} {g : Nat → Option α} {r : α} (h : Ev (fun k => g (k + 1)) r) : Ev g r := Ev.step (fun _ => rfl) h
theorem Ev_both {α β : Type} {g : Nat → Option α} {f : Nat → Option β} {r : α} {q : β} (h1 : Ev g r) (h2 : Ev f q) : ∃ K, ∀ k, K ≤ k → g k = some r ∧ f k = some q := by
  obtain ⟨K, h1⟩ := h1
  obtain ⟨K', h2⟩ := h2
  exact ⟨max K K', fun k hk => ⟨h1 k (by omega), h2 k (by omega)⟩⟩
theorem Ev_eq {α : Type} {g : Nat → Option α} {r q : α} (h : Ev g r) (e : r = q) : Ev g q := e ▸ h
theorem Ev_some {α : Type} {r q : α} (e : r = q) : Ev (fun _ => some r) q := e ▸ Ev.now r
noncomputable def tt (p : Prop) : Bool := @decide p (Classical.propDecidable p)
theorem tt_pos {p : Prop} (h : p) : tt p = true := by unfold tt; exact @decide_eq_true p (Classical.propDecidable p) h
theorem tt_neg {p : Prop} (h : ¬ p) : tt p = false := by unfold tt; exact @decide_eq_false p (Classical.propDecidable p) h
theorem tt_dec (p : Prop) [i : Decidable p] : tt p = decide p := by
  by_cases h : p
  · rw [tt_pos h, decide_eq_true h]
  · rw [tt_neg h, decide_eq_false h]
theorem tt_iff {p q : Prop} (h : p ↔ q) : tt p = tt q := by rw [propext h]
theorem tt_and (p q : Prop) : (tt p && tt q) = tt (p ∧ q) := by
  by_cases h : p
  · rw [tt_pos h, Bool.true_and]; exact tt_iff ⟨fun x => ⟨h, x⟩, fun x => x.2⟩
  · rw [tt_neg h, Bool.false_and, tt_neg (fun x => h x.1)]
theorem ev_all {L : Int → Nat → Option Bool} {P : Int → Prop} {n : Int} {fin : Bool} (h1 : ∀ i, 0 ≤ i → i < n → P i → ∀ r, Ev (L (i + 1)) r → Ev (L i) r) (h2 : ∀ i, 0 ≤ i → i < n → ¬ P i → Ev (L i) false) (h3 : Ev (L n) fin) :
    ∀ (d : Nat) (i : Int), 0 ≤ i → i + d = n → Ev (L i) (fin && tt (∀ j, i ≤ j → j < n → P j))
  | 0, i, h0, hd => by
    have e : i = n := by omega
    rw [e, tt_pos (fun j h1 h2 => by omega), Bool.and_true]
    exact h3
  | d + 1, i, h0, hd => by
    by_cases hp : P i
    · have := h1 i h0 (by omega) hp _ (ev_all h1 h2 h3 d (i + 1) (by omega) (by omega))
      refine Ev_eq this ?_
      congr 1
      exact tt_iff ⟨fun h j h1 h2 => by
        by_cases e : j = i
        · rw [e]; exact hp
        · exact h j (by omega) h2, fun h j h1 h2 => h j (by omega) h2⟩
    · rw [tt_neg (fun h => hp (h i (Int.le_refl _) (by omega))), Bool.and_false]
      exact h2 i h0 (by omega) hp
theorem set_at_mid {α : Type} (p : List α) (b v : α) (s : List α) : (p ++ b :: s).set ((p.length : Int)).toNat v = p ++ v :: s := by
  rw [Int.toNat_natCast, List.set_append_right _ _ (Nat.le_refl _)]
  simp
theorem getD_at_mid {α : Type} (z : α) (p : List α) (b : α) (s : List α) : (p ++ b :: s).getD ((p.length : Int)).toNat z = b := by
  rw [Int.toNat_natCast, List.getD_eq_getElem?_getD, List.getElem?_append_right (Nat.le_refl _)]
  simp
theorem impl_isKind_eq (k : Int) : impl_isKind.f k = some (decide (0 ≤ k ∧ k ≤ 3)) := by
  unfold impl_isKind.f
  rw [within_eq]; rfl
/-- A demand is right at its place. -/
def PT (l : List S81) (i : Int) : Prop := (0 ≤ (rd_T81 l i).f0 ∧ (rd_T81 l i).f0 ≤ 3) ∧ (20 ≤ (rd_T81 l i).f1 ∧ (rd_T81 l i).f1 ≤ 300) ∧ (0 ≤ (rd_T81 l i).f2 ∧ (rd_T81 l i).f2 ≤ 10000) ∧
  (0 < i → (rd_T81 l (i - 1)).f0 < (rd_T81 l i).f0 ∨ (rd_T81 l (i - 1)).f0 = (rd_T81 l i).f0 ∧ (rd_T81 l (i - 1)).f1 < (rd_T81 l i).f1 ∧ (rd_T81 l (i - 1)).f2 ≤ (rd_T81 l i).f2)
def PTab (l : List S81) : Prop := l.length ≤ 12 ∧ ∀ j : Int, 0 ≤ j → j < l.length → PT l j
theorem before_eq (a b c d e f : Int) : spec_l16Before.f a b c d e f = some (decide (a < d ∨ a = d ∧ b < e)) := by
  unfold spec_l16Before.f
  by_cases h : a < d
  · simp [h]
  · by_cases h2 : a = d <;> simp [h, h2]
theorem spec_IsTable_j1 (l : List S81) (hn : l.length ≤ 140737488351232) (i : Int) (h0 : 0 ≤ i) (h1 : i < l.length)
    (hf : (0 ≤ (rd_T81 l i).f0 ∧ (rd_T81 l i).f0 ≤ 3) ∧ (20 ≤ (rd_T81 l i).f1 ∧ (rd_T81 l i).f1 ≤ 300) ∧ (0 ≤ (rd_T81 l i).f2 ∧ (rd_T81 l i).f2 ≤ 10000)) :
    (PT l i → ∀ r, Ev (fun k => spec_IsTable.l0 k l (i + 1)) r → Ev (fun k => spec_IsTable.j1 k l i false (rd_T81 l i).f0 (rd_T81 l i).f1 (rd_T81 l i).f2) r) ∧
    (¬ PT l i → Ev (fun k => spec_IsTable.j1 k l i false (rd_T81 l i).f0 (rd_T81 l i).f1 (rd_T81 l i).f2) false) := by
  by_cases hi : i > 0
  · have w1 : wrap64 (i - 1) = i - 1 := w64 (by omega)
    have w2 : wrap64 (i + 1) = i + 1 := w64 (by omega)
    refine ⟨fun hp r hr => ?_, fun hp => ?_⟩
    · refine Ev_shift ?_
      simp only [spec_IsTable.j1, Bool.false_eq_true, if_false, if_pos hi, w1, w2, if_pos (show 0 ≤ i - 1 by omega), if_pos (show i - 1 < (l.length : Int) by omega), before_eq, Option.bind_some, decide_eq_true_eq]
      rcases hp.2.2.2 hi with h | ⟨h, h2, h3⟩
      · simp only [if_pos (show (rd_T81 l (i - 1)).f0 < (rd_T81 l i).f0 ∨ (rd_T81 l (i - 1)).f0 = (rd_T81 l i).f0 ∧ (rd_T81 l (i - 1)).f1 < (rd_T81 l i).f1 from .inl h), if_neg (show ¬ (rd_T81 l (i - 1)).f0 = (rd_T81 l i).f0 by omega)]
        exact hr
      · simp only [if_pos (show (rd_T81 l (i - 1)).f0 < (rd_T81 l i).f0 ∨ (rd_T81 l (i - 1)).f0 = (rd_T81 l i).f0 ∧ (rd_T81 l (i - 1)).f1 < (rd_T81 l i).f1 from .inr ⟨h, h2⟩), if_pos h, if_neg (show ¬ (rd_T81 l (i - 1)).f2 > (rd_T81 l i).f2 by omega)]
        exact hr
    · refine Ev_shift ?_
      simp only [spec_IsTable.j1, Bool.false_eq_true, if_false, if_pos hi, w1, w2, if_pos (show 0 ≤ i - 1 by omega), if_pos (show i - 1 < (l.length : Int) by omega), before_eq, Option.bind_some, decide_eq_true_eq]
      by_cases hb : (rd_T81 l (i - 1)).f0 < (rd_T81 l i).f0 ∨ (rd_T81 l (i - 1)).f0 = (rd_T81 l i).f0 ∧ (rd_T81 l (i - 1)).f1 < (rd_T81 l i).f1
      · have h2 : (rd_T81 l (i - 1)).f0 = (rd_T81 l i).f0 := by
          rcases hb with h | h
          · exact absurd ⟨hf.1, hf.2.1, hf.2.2, fun _ => .inl h⟩ hp
          · exact h.1
        have h3 : (rd_T81 l (i - 1)).f2 > (rd_T81 l i).f2 := by
          rcases hb with h | h
          · omega
          · by_cases h4 : (rd_T81 l (i - 1)).f2 ≤ (rd_T81 l i).f2
            · exact absurd ⟨hf.1, hf.2.1, hf.2.2, fun _ => .inr ⟨h.1, h.2, h4⟩⟩ hp
            · omega
        simp only [if_pos hb, if_pos h2, if_pos h3]
        exact Ev.now _
      · simp only [if_neg hb]
        exact Ev.now _
  · refine ⟨fun hp r hr => ?_, fun hp => absurd ⟨hf.1, hf.2.1, hf.2.2, fun h => absurd h hi⟩ hp⟩
    refine Ev_shift ?_
    simp only [spec_IsTable.j1, Bool.false_eq_true, if_false, if_neg hi, w64 (n := i + 1) (by omega)]
    exact hr
theorem spec_IsTable_ev (l : List S81) (hn : l.length ≤ 140737488351232) : Ev (fun k => spec_IsTable.f k l) (tt (PTab l)) := by
  unfold spec_IsTable.f
  have bad : ∀ i a b c, Ev (fun k => spec_IsTable.j1 k l i true a b c) false := fun i a b c => by
    refine Ev_shift ?_
    simp only [spec_IsTable.j1, if_true]
    exact Ev.now _
  have := ev_all (L := fun i k => spec_IsTable.l0 k l i) (P := PT l) (n := l.length) (fin := decide (l.length ≤ 12)) (fun i h0 h1 hp r hr => ?_) (fun i h0 h1 hp => ?_) ?_ l.length 0 (by omega) (by omega)
  · refine Ev_eq this ?_
    rw [← tt_dec, tt_and]
    exact tt_iff ⟨fun h => ⟨h.1, fun j h0 h1 => h.2 j h0 h1⟩, fun h => ⟨h.1, fun j h0 h1 => h.2 j h0 h1⟩⟩
  · refine Ev_shift ?_
    simp only [spec_IsTable.l0, if_pos h1, if_pos h0, l01In_eq, Option.bind_some, decide_eq_true_eq, if_pos hp.1, if_pos hp.2.1, decide_eq_true hp.2.2.1, Bool.not_true]
    exact (spec_IsTable_j1 l hn i h0 h1 ⟨hp.1, hp.2.1, hp.2.2.1⟩).1 hp r hr
  · refine Ev_shift ?_
    simp only [spec_IsTable.l0, if_pos h1, if_pos h0, l01In_eq, Option.bind_some, decide_eq_true_eq]
    by_cases c1 : 0 ≤ (rd_T81 l i).f0 ∧ (rd_T81 l i).f0 ≤ 3
    · by_cases c2 : 20 ≤ (rd_T81 l i).f1 ∧ (rd_T81 l i).f1 ≤ 300
      · by_cases c3 : 0 ≤ (rd_T81 l i).f2 ∧ (rd_T81 l i).f2 ≤ 10000
        · simp only [if_pos c1, if_pos c2, decide_eq_true c3, Bool.not_true]
          exact (spec_IsTable_j1 l hn i h0 h1 ⟨c1, c2, c3⟩).2 hp
        · simp only [if_pos c1, if_pos c2, decide_eq_false c3, Bool.not_false]
          exact bad _ _ _ _
      · simp only [if_pos c1, if_neg c2]
        exact bad _ _ _ _
    · simp only [if_neg c1]
      exact bad _ _ _ _
  · refine Ev_shift ?_
    simp only [spec_IsTable.l0, if_neg (show ¬ (l.length : Int) < l.length by omega)]
    exact Ev_some (by congr 1; exact propext ⟨fun h => by omega, fun h => by omega⟩)
theorem impl_IsTable_j1 (l : List S81) (hn : l.length ≤ 140737488351232) (i : Int) (h0 : 0 ≤ i) (h1 : i < l.length)
    (hf : (0 ≤ (rd_T81 l i).f0 ∧ (rd_T81 l i).f0 ≤ 3) ∧ (20 ≤ (rd_T81 l i).f1 ∧ (rd_T81 l i).f1 ≤ 300) ∧ (0 ≤ (rd_T81 l i).f2 ∧ (rd_T81 l i).f2 ≤ 10000)) :
    (PT l i → ∀ r, Ev (fun k => impl_IsTable.l0 k l l l.length (i + 1)) r → Ev (fun k => impl_IsTable.j1 k l i l l.length i false (rd_T81 l i).f0 (rd_T81 l i).f1 (rd_T81 l i).f2) r) ∧
    (¬ PT l i → Ev (fun k => impl_IsTable.j1 k l i l l.length i false (rd_T81 l i).f0 (rd_T81 l i).f1 (rd_T81 l i).f2) false) := by
  by_cases hi : i > 0
  · have w1 : wrap64 (i - 1) = i - 1 := w64 (by omega)
    have w2 : wrap64 (i + 1) = i + 1 := w64 (by omega)
    refine ⟨fun hp r hr => ?_, fun hp => ?_⟩
    · refine Ev_shift ?_
      simp only [impl_IsTable.j1, Bool.false_eq_true, if_false, if_neg (show ¬ i = 0 by omega), w1, w2, if_pos (show 0 ≤ i - 1 by omega), if_pos (show i - 1 < (l.length : Int) by omega)]
      rcases hp.2.2.2 hi with h | ⟨h, h2, h3⟩
      · simp only [if_neg (show ¬ (rd_T81 l (i - 1)).f0 > (rd_T81 l i).f0 by omega), if_neg (show ¬ (rd_T81 l (i - 1)).f0 = (rd_T81 l i).f0 by omega)]
        exact hr
      · simp only [if_neg (show ¬ (rd_T81 l (i - 1)).f0 > (rd_T81 l i).f0 by omega), if_pos h, if_neg (show ¬ (rd_T81 l (i - 1)).f1 ≥ (rd_T81 l i).f1 by omega), if_neg (show ¬ (rd_T81 l (i - 1)).f2 > (rd_T81 l i).f2 by omega)]
        exact hr
    · refine Ev_shift ?_
      simp only [impl_IsTable.j1, Bool.false_eq_true, if_false, if_neg (show ¬ i = 0 by omega), w1, w2, if_pos (show 0 ≤ i - 1 by omega), if_pos (show i - 1 < (l.length : Int) by omega)]
      by_cases c1 : (rd_T81 l (i - 1)).f0 > (rd_T81 l i).f0
      · simp only [if_pos c1]
        exact Ev.now _
      · by_cases c2 : (rd_T81 l (i - 1)).f0 = (rd_T81 l i).f0
        · by_cases c3 : (rd_T81 l (i - 1)).f1 ≥ (rd_T81 l i).f1
          · simp only [if_neg c1, if_pos c2, if_pos c3]
            exact Ev.now _
          · by_cases c4 : (rd_T81 l (i - 1)).f2 > (rd_T81 l i).f2
            · simp only [if_neg c1, if_pos c2, if_neg c3, if_pos c4]
              exact Ev.now _
            · exact absurd ⟨hf.1, hf.2.1, hf.2.2, fun _ => .inr ⟨c2, by omega, by omega⟩⟩ hp
        · exact absurd ⟨hf.1, hf.2.1, hf.2.2, fun _ => .inl (by omega)⟩ hp
  · refine ⟨fun hp r hr => ?_, fun hp => absurd ⟨hf.1, hf.2.1, hf.2.2, fun h => absurd h hi⟩ hp⟩
    refine Ev_shift ?_
    simp only [impl_IsTable.j1, Bool.false_eq_true, if_false, if_pos (show i = 0 by omega), w64 (n := i + 1) (by omega)]
    exact hr
theorem impl_isCalibre_eq (c : Int) : impl_isCalibre.f c = some (decide (20 ≤ c ∧ c ≤ 300)) := by
  unfold impl_isCalibre.f
  rw [within_eq]; rfl
theorem impl_IsTable_ev (l : List S81) (hn : l.length ≤ 140737488351232) : Ev (fun k => impl_IsTable.f k l) (tt (PTab l)) := by
  unfold impl_IsTable.f
  by_cases hl : (l.length : Int) > 12
  · simp only [if_pos hl]
    exact Ev_some (tt_neg (fun h => by have := h.1; omega)).symm
  · simp only [if_neg hl]
    have bad : ∀ i a b c, Ev (fun k => impl_IsTable.j1 k l i l l.length i true a b c) false := fun i a b c => by
      refine Ev_shift ?_
      simp only [impl_IsTable.j1, if_true]
      exact Ev.now _
    have := ev_all (L := fun i k => impl_IsTable.l0 k l l l.length i) (P := PT l) (n := l.length) (fin := true) (fun i h0 h1 hp r hr => ?_) (fun i h0 h1 hp => ?_) ?_ l.length 0 (by omega) (by omega)
    · refine Ev_eq this ?_
      rw [Bool.true_and]
      exact tt_iff ⟨fun h => ⟨by omega, fun j h0 h1 => h j h0 h1⟩, fun h j h0 h1 => h.2 j h0 h1⟩
    · refine Ev_shift ?_
      simp only [impl_IsTable.l0, if_pos h1, if_pos h0, impl_isKind_eq, impl_isCalibre_eq, within_eq, Option.bind_some, decide_eq_true_eq, if_pos hp.1, if_pos hp.2.1, decide_eq_true hp.2.2.1, Bool.not_true]
      exact (impl_IsTable_j1 l hn i h0 h1 ⟨hp.1, hp.2.1, hp.2.2.1⟩).1 hp r hr
    · refine Ev_shift ?_
      simp only [impl_IsTable.l0, if_pos h1, if_pos h0, impl_isKind_eq, impl_isCalibre_eq, within_eq, Option.bind_some, decide_eq_true_eq]
      by_cases c1 : 0 ≤ (rd_T81 l i).f0 ∧ (rd_T81 l i).f0 ≤ 3
      · by_cases c2 : 20 ≤ (rd_T81 l i).f1 ∧ (rd_T81 l i).f1 ≤ 300
        · by_cases c3 : 0 ≤ (rd_T81 l i).f2 ∧ (rd_T81 l i).f2 ≤ 10000
          · simp only [if_pos c1, if_pos c2, decide_eq_true c3, Bool.not_true]
            exact (impl_IsTable_j1 l hn i h0 h1 ⟨c1, c2, c3⟩).2 hp
          · simp only [if_pos c1, if_pos c2, decide_eq_false c3, Bool.not_false]
            exact bad _ _ _ _
        · simp only [if_pos c1, if_neg c2]
          exact bad _ _ _ _
      · simp only [if_neg c1]
        exact bad _ _ _ _
    · refine Ev_shift ?_
      simp only [impl_IsTable.l0, if_neg (show ¬ (l.length : Int) < l.length by omega)]
      exact Ev.now _
/-- One demand lies before another one. -/
def ltD (x y : S81) : Prop := x.f0 < y.f0 ∨ x.f0 = y.f0 ∧ x.f1 < y.f1
instance (x y : S81) : Decidable (ltD x y) := by unfold ltD; infer_instance
/-- A demand put to its place. -/
def insM (d : S81) : List S81 → List S81
  | [] => [d]
  | x :: r => if ltD x d then x :: insM d r else if x.f0 = d.f0 ∧ x.f1 = d.f1 then ⟨x.f0, x.f1, mx x.f2 d.f2⟩ :: r else d :: x :: r
theorem ltD_trans {x y z : S81} (h : ltD x y) (k : ltD y z) : ltD x z := by
  unfold ltD at *
  omega
theorem insM_length (d : S81) : ∀ l : List S81, (insM d l).length ≤ l.length + 1
  | [] => Nat.le_refl _
  | x :: r => by
    unfold insM
    have := insM_length d r
    split
    · simp only [List.length_cons]; omega
    · split
      · simp only [List.length_cons]; omega
      · simp only [List.length_cons]; omega
theorem insM_app (d : S81) (s : List S81) : ∀ p : List S81, (∀ x ∈ p, ltD x d) → insM d (p ++ s) = p ++ insM d s
  | [], _ => rfl
  | x :: p, h => by
    have e : insM d (x :: (p ++ s)) = x :: insM d (p ++ s) := by rw [insM, if_pos (h x (List.mem_cons_self ..))]
    show insM d (x :: (p ++ s)) = x :: (p ++ insM d s)
    rw [e, insM_app d s p (fun y hy => h y (List.mem_cons_of_mem _ hy))]
theorem insM_front (d : S81) : ∀ s : List S81, (∀ x ∈ s, ltD d x) → insM d s = d :: s
  | [], _ => rfl
  | x :: s, h => by
    have hx := h x (List.mem_cons_self ..)
    unfold ltD at hx
    unfold insM
    rw [if_neg (by unfold ltD; omega), if_neg (by omega)]
theorem insM_lb (z d : S81) (hz : ltD z d) : ∀ l : List S81, (∀ x ∈ l, ltD z x) → ∀ y ∈ insM d l, ltD z y
  | [], _, y, hy => by
    simp only [insM, List.mem_singleton] at hy
    rw [hy]; exact hz
  | x :: r, h, y, hy => by
    have hx := h x (List.mem_cons_self ..)
    have hr := fun y hy => h y (List.mem_cons_of_mem _ hy)
    unfold insM at hy
    split at hy
    · rcases List.mem_cons.1 hy with rfl | hy
      · exact hx
      · exact insM_lb z d hz r hr y hy
    · split at hy
      · rcases List.mem_cons.1 hy with rfl | hy
        · exact hx
        · exact hr y hy
      · rcases List.mem_cons.1 hy with rfl | hy
        · exact hz
        · exact h y hy
theorem insM_srt (d : S81) : ∀ l : List S81, l.Pairwise ltD → (insM d l).Pairwise ltD
  | [], _ => List.pairwise_singleton ..
  | x :: r, h => by
    obtain ⟨h1, h2⟩ := List.pairwise_cons.1 h
    unfold insM
    split
    · rename_i hx
      exact List.pairwise_cons.2 ⟨ insM_lb x d hx r h1, insM_srt d r h2⟩
    · rename_i hx
      split
      · exact List.pairwise_cons.2 ⟨fun y hy => h1 y hy, h2⟩
      · rename_i hk
        have hd : ltD d x := by
          unfold ltD at *
          omega
        exact List.pairwise_cons.2 ⟨fun y hy => (List.mem_cons.1 hy).elim (fun e => e ▸ hd) (fun hy => ltD_trans hd (h1 y hy)), h⟩
/-- All demands of a list put to their places. -/
def insAll : List S81 → List S81 → List S81
  | l, [] => l
  | l, d :: s => insAll (insM d l) s
theorem insAll_app : ∀ (a l b : List S81), insAll l (a ++ b) = insAll (insAll l a) b
  | [], l, b => rfl
  | d :: a, l, b => insAll_app a (insM d l) b
theorem insAll_self : ∀ (a p : List S81), (p ++ a).Pairwise ltD → insAll p a = p ++ a
  | [], p, _ => by simp [insAll]
  | d :: a, p, h => by
    have hp : ∀ x ∈ p, ltD x d := fun x hx => (List.pairwise_append.1 h).2.2 x hx d (List.mem_cons_self ..)
    show insAll (insM d p) a = _
    have e := insM_app d [] p hp
    rw [List.append_nil] at e
    rw [e]
    show insAll (p ++ [d]) a = _
    rw [insAll_self a (p ++ [d]) (by rw [List.append_assoc]; exact h), List.append_assoc]
    rfl
/-- The greatest distance so far is laid on, kind by kind. -/
def runF : S81 → List S81 → List S81
  | _, [] => []
  | e, x :: r => if e.f0 = x.f0 then (⟨x.f0, x.f1, mx x.f2 e.f2⟩ : S81) :: runF ⟨x.f0, x.f1, mx x.f2 e.f2⟩ r else x :: runF x r
def runM : List S81 → List S81
  | [] => []
  | x :: r => x :: runF x r
theorem runF_length : ∀ (r : List S81) (e : S81), (runF e r).length = r.length
  | [], _ => rfl
  | x :: r, e => by
    unfold runF
    split
    · simp only [List.length_cons, runF_length r]
    · simp only [List.length_cons, runF_length r]
theorem runM_length (l : List S81) : (runM l).length = l.length := by
  cases l with
  | nil => rfl
  | cons x r => simp only [runM, List.length_cons, runF_length]
theorem rd16_mid (p s : List S81) (x : S81) : rd_T81 (p ++ x :: s) (p.length : Int) = x := getD_at_mid _ p x s
theorem rd16_mid1 (p s : List S81) (x y : S81) : rd_T81 (p ++ x :: y :: s) ((p.length : Int) + 1) = y := by
  have h := rd16_mid (p ++ [x]) s y
  rw [List.append_assoc, List.length_append] at h
  exact h
theorem spec_merge_l2 : ∀ (s p : List S81) (e : S81), p.length + s.length ≤ 1000 → Ev (fun k => spec_MergeTables.l2 k (p ++ e :: s) ((p.length : Int) + 1)) (p ++ e :: runF e s, 0)
  | [], p, e, hl => by
    refine Ev_shift ?_
    simp only [spec_MergeTables.l2, if_neg (show ¬ (p.length : Int) + 1 < ((p ++ [e]).length : Int) by simp)]
    exact Ev.now _
  | x :: s, p, e, hl => by
    refine Ev_shift ?_
    have hlen : ((p ++ e :: x :: s).length : Int) = p.length + s.length + 2 := by simp; omega
    simp only [spec_MergeTables.l2, hlen, w64 (n := (p.length : Int)) (by simp only [List.length_cons] at hl; omega), w64 (n := (p.length : Int) + 1 + 1) (by simp only [List.length_cons] at hl; omega), show (p.length : Int) + 1 - 1 = p.length by omega, if_pos (show (p.length : Int) + 1 < (p.length : Int) + s.length + 2 by omega), if_pos (show 0 ≤ (p.length : Int) by omega), if_pos (show (p.length : Int) < (p.length : Int) + s.length + 2 by omega), if_pos (show 0 ≤ (p.length : Int) + 1 by omega), rd16_mid, rd16_mid1]
    unfold runF
    by_cases h : e.f0 = x.f0
    · simp only [if_pos h]
      have es := set_at_mid (p ++ [e]) x (⟨x.f0, x.f1, mx x.f2 e.f2⟩ : S81) s
      rw [List.append_assoc, List.append_assoc, List.length_append] at es
      have ih := spec_merge_l2 s (p ++ [e]) (⟨x.f0, x.f1, mx x.f2 e.f2⟩ : S81) (by simp only [List.length_append, List.length_cons, List.length_nil] at hl ⊢; omega)
      rw [List.append_assoc, List.append_assoc, List.length_append] at ih
      have es2 : (p ++ e :: x :: s).set ((p.length : Int) + 1).toNat (⟨x.f0, x.f1, mx x.f2 e.f2⟩ : S81) = p ++ e :: (⟨x.f0, x.f1, mx x.f2 e.f2⟩ : S81) :: s := es
      rw [es2]
      exact ih
    · simp only [if_neg h]
      have ih := spec_merge_l2 s (p ++ [e]) x (by simp only [List.length_append, List.length_cons, List.length_nil] at hl ⊢; omega)
      rw [List.append_assoc, List.append_assoc, List.length_append] at ih
      exact ih
theorem impl_merge_l2 : ∀ (s p : List S81) (e : S81), p.length + s.length ≤ 1000 → Ev (fun k => impl_MergeTables.l2 k (p ++ e :: s) ((p.length : Int) + 1)) (p ++ e :: runF e s, 0)
  | [], p, e, hl => by
    refine Ev_shift ?_
    simp only [impl_MergeTables.l2, if_neg (show ¬ (p.length : Int) + 1 < ((p ++ [e]).length : Int) by simp)]
    exact Ev.now _
  | x :: s, p, e, hl => by
    refine Ev_shift ?_
    have hlen : ((p ++ e :: x :: s).length : Int) = p.length + s.length + 2 := by simp; omega
    simp only [impl_MergeTables.l2, hlen, w64 (n := (p.length : Int)) (by simp only [List.length_cons] at hl; omega), w64 (n := (p.length : Int) + 1 + 1) (by simp only [List.length_cons] at hl; omega), show (p.length : Int) + 1 - 1 = p.length by omega, if_pos (show (p.length : Int) + 1 < (p.length : Int) + s.length + 2 by omega), if_pos (show 0 ≤ (p.length : Int) by omega), if_pos (show (p.length : Int) < (p.length : Int) + s.length + 2 by omega), if_pos (show 0 ≤ (p.length : Int) + 1 by omega), rd16_mid, rd16_mid1]
    unfold runF
    by_cases h : e.f0 = x.f0
    · simp only [if_pos h]
      have es := set_at_mid (p ++ [e]) x (⟨x.f0, x.f1, mx x.f2 e.f2⟩ : S81) s
      rw [List.append_assoc, List.append_assoc, List.length_append] at es
      have ih := impl_merge_l2 s (p ++ [e]) (⟨x.f0, x.f1, mx x.f2 e.f2⟩ : S81) (by simp only [List.length_append, List.length_cons, List.length_nil] at hl ⊢; omega)
      rw [List.append_assoc, List.append_assoc, List.length_append] at ih
      have es2 : (p ++ e :: x :: s).set ((p.length : Int) + 1).toNat (⟨x.f0, x.f1, mx x.f2 e.f2⟩ : S81) = p ++ e :: (⟨x.f0, x.f1, mx x.f2 e.f2⟩ : S81) :: s := es
      rw [es2]
      exact ih
    · simp only [if_neg h]
      have ih := impl_merge_l2 s (p ++ [e]) x (by simp only [List.length_append, List.length_cons, List.length_nil] at hl ⊢; omega)
      rw [List.append_assoc, List.append_assoc, List.length_append] at ih
      exact ih
theorem spec_merge_end (l : List S81) (hl : l.length ≤ 1000) : Ev (fun k => spec_MergeTables.l2 k l 1) (runM l, 0) := by
  cases l with
  | nil =>
    refine Ev_shift ?_
    simp only [spec_MergeTables.l2, if_neg (show ¬ (1 : Int) < (([] : List S81).length : Int) by simp)]
    exact Ev.now _
  | cons x r => exact spec_merge_l2 r [] x (by simp only [List.length_cons, List.length_nil] at hl ⊢; omega)
theorem impl_merge_end (l : List S81) (hl : l.length ≤ 1000) : Ev (fun k => impl_MergeTables.l2 k l 1) (runM l, 0) := by
  cases l with
  | nil =>
    refine Ev_shift ?_
    simp only [impl_MergeTables.l2, if_neg (show ¬ (1 : Int) < (([] : List S81).length : Int) by simp)]
    exact Ev.now _
  | cons x r => exact impl_merge_l2 r [] x (by simp only [List.length_cons, List.length_nil] at hl ⊢; omega)
/-- What merging tells. -/
def mergeR (l : List S81) : List S81 × Int := if l.length > 12 then ([], 3) else (runM l, 0)
theorem spec_merge_l1 (x0 b : List S81) (hb : b.length ≤ 100) (i : Int) (h0 : 0 ≤ i) (hi : i < b.length) : ∀ (s p : List S81), p.length + s.length ≤ 1000 → ∀ r, Ev (fun k => spec_MergeTables.l0 k x0 b (p ++ insM (rd_T81 b i) s) (i + 1)) r → Ev (fun k => spec_MergeTables.l1 k x0 b (p ++ s) i (p.length : Int)) r
  | [], p, hl, r, h => by
    refine Ev_shift ?_
    simp only [List.append_nil, List.length_nil] at hl ⊢
    simp only [spec_MergeTables.l1, if_neg (show ¬ (p.length : Int) < (p.length : Int) by omega), if_pos (show 0 ≤ (p.length : Int) by omega), if_pos (show (p.length : Int) ≤ (p.length : Int) by omega), Option.bind_some, Int.toNat_natCast, List.take_length, List.drop_length, List.nil_append, List.append_nil, List.length_append, List.length_cons, List.length_nil, if_pos h0, if_pos hi, Nat.zero_add, Nat.add_zero, if_pos (show p.length < 5864062014805 by omega), if_pos (show p.length + 1 < 5864062014805 by omega), w64 (n := i + 1) (by omega)]
    exact h
  | x :: s, p, hl, r, h => by
    refine Ev_shift ?_
    have hlen : ((p ++ x :: s).length : Int) = p.length + s.length + 1 := by simp; omega
    simp only [List.length_cons] at hl
    have etk : (p ++ x :: s).take p.length = p := List.take_left' rfl
    have edr : (p ++ x :: s).drop p.length = x :: s := List.drop_left' rfl
    have hins : ∀ q : Prop, q → (¬ ltD x (rd_T81 b i)) → ¬ (x.f0 = (rd_T81 b i).f0 ∧ x.f1 = (rd_T81 b i).f1) → Ev (fun k => spec_MergeTables.l0 k x0 b ((p ++ [rd_T81 b i]) ++ x :: s) (i + 1)) r := fun _ _ n1 n2 => by
      unfold insM at h
      rw [if_neg n1, if_neg n2] at h
      rw [List.append_assoc]
      exact h
    simp only [spec_MergeTables.l1, if_pos (show (p.length : Int) < ((p.length + (s.length + 1) : Nat) : Int) by omega), if_pos (show 0 ≤ (p.length : Int) by omega), if_pos h0, if_pos hi, before_eq, Option.bind_some, rd16_mid, decide_eq_true_eq, Int.toNat_natCast, etk, edr, set_at_mid, if_pos (show (p.length : Int) ≤ ((p.length + (s.length + 1) : Nat) : Int) by omega), List.nil_append, List.length_append, List.length_cons, List.length_nil, w64 (n := i + 1) (by omega), w64 (n := (p.length : Int) + 1) (by omega), Nat.zero_add, if_pos (show p.length < 5864062014805 by omega), if_pos (show p.length + 1 < 5864062014805 by omega), if_pos (show p.length + 1 + (s.length + 1) < 5864062014805 by omega)]
    by_cases c : x.f0 < (rd_T81 b i).f0 ∨ x.f0 = (rd_T81 b i).f0 ∧ x.f1 < (rd_T81 b i).f1
    · simp only [if_pos c]
      have ih := spec_merge_l1 x0 b hb i h0 hi s (p ++ [x]) (by simp only [List.length_append, List.length_cons, List.length_nil]; omega) r (by
        unfold insM at h
        rw [if_pos (show ltD x (rd_T81 b i) from c)] at h
        rw [List.append_assoc]
        exact h)
      rw [List.append_assoc, List.length_append] at ih
      exact ih
    · simp only [if_neg c]
      by_cases k1 : x.f0 = (rd_T81 b i).f0
      · by_cases k2 : x.f1 = (rd_T81 b i).f1
        · simp only [if_pos k1, if_pos k2]
          unfold insM at h
          rw [if_neg (show ¬ ltD x (rd_T81 b i) from c), if_pos ⟨k1, k2⟩] at h
          have est := set_at_mid p x (⟨x.f0, x.f1, mx x.f2 (rd_T81 b i).f2⟩ : S81) s
          rw [Int.toNat_natCast] at est
          rw [est]
          exact h
        · simp only [if_pos k1, if_neg k2]
          exact hins True trivial c (fun e => k2 e.2)
      · simp only [if_neg k1]
        exact hins True trivial c (fun e => k1 e.1)
theorem spec_merge_l0 (x0 b : List S81) (hb : b.length ≤ 100) : ∀ (s : List S81) (i : Int) (l : List S81), 0 ≤ i → i + s.length = b.length → b.drop i.toNat = s → l.length + s.length ≤ 900 → Ev (fun k => spec_MergeTables.l0 k x0 b l i) (mergeR (insAll l s))
  | [], i, l, h0, hi, hd, hl => by
    refine Ev_shift ?_
    simp only [List.length_nil] at hi hl
    simp only [spec_MergeTables.l0, if_neg (show ¬ i < (b.length : Int) by omega), insAll]
    by_cases h : l.length > 12
    · simp only [if_pos (show (l.length : Int) > 12 by omega)]
      exact Ev_some (show ([], 3) = mergeR l from (if_pos h).symm)
    · simp only [if_neg (show ¬ (l.length : Int) > 12 by omega)]
      rw [show mergeR l = (runM l, 0) from if_neg h]
      exact spec_merge_end l (by omega)
  | d :: s, i, l, h0, hi, hd, hl => by
    obtain ⟨g1, g2, g3⟩ := drop_cons (z := z81) h0 hd
    simp only [List.length_cons] at hi hl
    refine Ev_shift ?_
    simp only [spec_MergeTables.l0, if_pos (show i < (b.length : Int) by omega)]
    have e : rd_T81 b i = d := g2
    have := spec_merge_l1 x0 b hb i h0 (by omega) l [] (by simp only [List.length_nil]; omega) (mergeR (insAll l (d :: s))) (by
      rw [e]
      exact spec_merge_l0 x0 b hb s (i + 1) (insM d l) (by omega) (by omega) g3 (by have := insM_length d l; omega))
    exact this
theorem shift_set (p s : List S81) (z d : S81) : (shiftM_ ((p ++ s) ++ [z]) (p.length : Int)).set ((p.length : Int)).toNat d = p ++ d :: s := by
  unfold shiftM_
  rw [Int.toNat_natCast, List.append_assoc]
  have e1 : (p ++ (s ++ [z])).take (p.length + 1) = p ++ (s ++ [z]).take 1 := by
    rw [List.take_append, List.take_of_length_le (by omega)]
    congr 2
    omega
  have e2 : ((p ++ (s ++ [z])).drop p.length).take ((p ++ (s ++ [z])).length - (p.length + 1)) = s := by
    rw [List.drop_left' rfl]
    exact List.take_left' (by simp only [List.length_append, List.length_cons, List.length_nil]; omega)
  rw [e1, e2]
  obtain ⟨h, hh⟩ : ∃ h, (s ++ [z]).take 1 = [h] := by
    cases s with
    | nil => exact ⟨z, rfl⟩
    | cons x r => exact ⟨x, rfl⟩
  rw [hh, List.append_assoc]
  have := set_at_mid p h d s
  rw [Int.toNat_natCast] at this
  exact this
theorem impl_merge_l1 (c : List S81) (n i : Int) (hi : 0 ≤ i ∧ i < 1000) (d : S81) : ∀ (m : Nat) (p s : List S81), p.length = m → p.length + s.length ≤ 1000 → (p ++ s).Pairwise ltD → (∀ x ∈ s, ltD d x) → ∀ r, Ev (fun k => impl_MergeTables.l0 k (insM d (p ++ s)) c n (i + 1)) r → Ev (fun k => impl_MergeTables.l1 k (p ++ s) (p.length : Int) c n i d.f0 d.f1 d.f2) r
  | 0, p, s, hm, hl, hs, hg, r, h => by
    have hp : p = [] := List.eq_nil_of_length_eq_zero hm
    subst hp
    rw [List.nil_append, insM_front d s hg] at h
    refine Ev_shift ?_
    have es := shift_set [] s (⟨0, 0, 0⟩ : S81) d
    simp only [List.length_nil, List.nil_append] at es hl ⊢
    simp only [impl_MergeTables.l1, if_neg (show ¬ ((0 : Nat) : Int) > 0 by omega), if_pos (show s.length < 5864062014805 by omega), Option.bind_some, if_pos (show (0 : Int) ≤ ((0 : Nat) : Int) by omega), if_pos (show ((0 : Nat) : Int) < ((s ++ [(⟨0, 0, 0⟩ : S81)]).length : Int) by simp only [List.length_append, List.length_cons, List.length_nil]; omega), w64 (n := i + 1) (by omega), es]
    exact h
  | m + 1, p, s, hm, hl, hs, hg, r, h => by
    obtain ⟨q, e, rfl⟩ : ∃ q e, p = q ++ [e] := by
      rcases List.eq_nil_or_concat p with hp | ⟨q, e, hp⟩
      · rw [hp] at hm; simp at hm
      · exact ⟨q, e, by rw [hp, List.concat_eq_append]⟩
    have hq : q.length = m := by simpa using hm
    have hlen : ((q ++ [e]).length : Int) = (q.length : Int) + 1 := by simp
    have hx : (q ++ [e]) ++ s = q ++ e :: s := by rw [List.append_assoc]; rfl
    have hxl : ((q ++ e :: s).length : Int) = (q.length : Int) + s.length + 1 := by simp; omega
    have hl2 : q.length + s.length + 1 ≤ 1000 := by
      simp only [List.length_append, List.length_cons, List.length_nil] at hl
      omega
    rw [hx] at hs h ⊢
    have hqe : ∀ x ∈ q, ltD x e := fun x hx => (List.pairwise_append.1 hs).2.2 x hx e (List.mem_cons_self ..)
    have es : (shiftM_ ((q ++ e :: s) ++ [(⟨0, 0, 0⟩ : S81)]) ((q.length : Int) + 1)).set ((q.length : Int) + 1).toNat (⟨d.f0, d.f1, d.f2⟩ : S81) = q ++ ([e] ++ d :: s) := by
      have h1 := shift_set (q ++ [e]) s (⟨0, 0, 0⟩ : S81) d
      rw [hx, hlen] at h1
      rw [← List.append_assoc]
      exact h1
    have hins : ltD e d → Ev (fun k => impl_MergeTables.l0 k ((shiftM_ ((q ++ e :: s) ++ [(⟨0, 0, 0⟩ : S81)]) ((q.length : Int) + 1)).set ((q.length : Int) + 1).toNat (⟨d.f0, d.f1, d.f2⟩ : S81)) c n (i + 1)) r := fun he => by
      rw [es]
      have e1 := insM_app d s (q ++ [e]) (fun x hx => (List.mem_append.1 hx).elim (fun hx => ltD_trans (hqe x hx) he) (fun hx => by rw [List.mem_singleton.1 hx]; exact he))
      rw [hx, insM_front d s hg, List.append_assoc] at e1
      rw [e1] at h
      exact h
    refine Ev_shift ?_
    rw [hlen]
    simp only [impl_MergeTables.l1, if_pos (show (q.length : Int) + 1 > 0 by omega), w64 (n := (q.length : Int)) (by omega), show (q.length : Int) + 1 - 1 = q.length by omega, if_pos (show 0 ≤ (q.length : Int) by omega), hxl, if_pos (show (q.length : Int) < (q.length : Int) + s.length + 1 by omega), rd16_mid, set_at_mid, w64 (n := i + 1) (by omega), Option.bind_some, if_pos (show (q ++ e :: s).length < 5864062014805 by simp only [List.length_append, List.length_cons]; omega), if_pos (show 0 ≤ (q.length : Int) + 1 by omega), if_pos (show (q.length : Int) + 1 < (((q ++ e :: s) ++ [(⟨0, 0, 0⟩ : S81)]).length : Int) by simp only [List.length_append, List.length_cons, List.length_nil]; omega)]
    have hrec : ltD d e → Ev (fun k => impl_MergeTables.l1 k (q ++ e :: s) (q.length : Int) c n i d.f0 d.f1 d.f2) r := fun hd =>
      impl_merge_l1 c n i hi d m q (e :: s) hq (by simp only [List.length_cons]; omega) hs (fun x hx => (List.mem_cons.1 hx).elim (fun e1 => e1 ▸ hd) (fun hx => hg x hx)) r h
    by_cases c1 : e.f0 > d.f0
    · simp only [if_pos c1]
      exact hrec (Or.inl c1)
    · simp only [if_neg c1]
      by_cases c2 : e.f0 = d.f0
      · simp only [if_pos c2]
        by_cases c3 : e.f1 > d.f1
        · simp only [if_pos c3]
          exact hrec (Or.inr ⟨c2.symm, c3⟩)
        · simp only [if_neg c3]
          by_cases c4 : e.f1 = d.f1
          · simp only [if_pos c4]
            have hqd : ∀ x ∈ q, ltD x d := fun x hx => by
              have := hqe x hx
              unfold ltD at *
              omega
            have e1 := insM_app d (e :: s) q hqd
            rw [e1] at h
            unfold insM at h
            rw [if_neg (by unfold ltD; omega), if_pos ⟨c2, c4⟩] at h
            exact h
          · simp only [if_neg c4]
            exact hins (Or.inr ⟨c2, by omega⟩)
      · simp only [if_neg c2]
        exact hins (Or.inl (by omega))
theorem impl_merge_l0 (c : List S81) (hc : c.length ≤ 100) : ∀ (s : List S81) (i : Int) (l : List S81), 0 ≤ i → i + s.length = c.length → c.drop i.toNat = s → l.length + s.length ≤ 900 → l.Pairwise ltD → Ev (fun k => impl_MergeTables.l0 k l c (c.length : Int) i) (mergeR (insAll l s))
  | [], i, l, h0, hi, hd, hl, hs => by
    refine Ev_shift ?_
    simp only [List.length_nil] at hi hl
    simp only [impl_MergeTables.l0, if_neg (show ¬ i < (c.length : Int) by omega), insAll]
    by_cases h : l.length > 12
    · simp only [if_pos (show (l.length : Int) > 12 by omega)]
      exact Ev_some (show ([], 3) = mergeR l from (if_pos h).symm)
    · simp only [if_neg (show ¬ (l.length : Int) > 12 by omega)]
      rw [show mergeR l = (runM l, 0) from if_neg h]
      exact impl_merge_end l (by omega)
  | d :: s, i, l, h0, hi, hd, hl, hs => by
    obtain ⟨g1, g2, g3⟩ := drop_cons (z := z81) h0 hd
    simp only [List.length_cons] at hi hl
    refine Ev_shift ?_
    have e : rd_T81 c i = d := g2
    simp only [impl_MergeTables.l0, if_pos (show i < (c.length : Int) by omega), if_pos h0, e]
    have := impl_merge_l1 c (c.length : Int) i (by omega) d l.length l [] rfl (by simp only [List.length_nil]; omega) (by rw [List.append_nil]; exact hs) (fun x hx => by simp at hx) (mergeR (insAll l (d :: s))) (by
      rw [List.append_nil]
      exact impl_merge_l0 c hc s (i + 1) (insM d l) (by omega) (by omega) g3 (by have := insM_length d l; omega) (insM_srt d l hs))
    rw [List.append_nil] at this
    exact this
theorem tab_srt {l : List S81} (h : PTab l) : l.Pairwise ltD := by
  have at_ : ∀ (i : Nat) (hi : i < l.length), rd_T81 l (i : Int) = l[i] := fun i hi => by
    show l.getD _ _ = _
    rw [Int.toNat_natCast, List.getD_eq_getElem?_getD, List.getElem?_eq_getElem hi]
    rfl
  have step : ∀ (i : Nat) (hi : i + 1 < l.length), ltD (l[i]'(by omega)) (l[i + 1]'hi) := fun i hi => by
    have hp := (h.2 ((i + 1 : Nat) : Int) (by omega) (by omega)).2.2.2 (by omega)
    have e : ((i + 1 : Nat) : Int) - 1 = (i : Int) := by omega
    rw [e, at_ i (by omega), at_ (i + 1) hi] at hp
    unfold ltD
    omega
  have far : ∀ (d i : Nat) (hi : i + d + 1 < l.length), ltD (l[i]'(by omega)) (l[i + d + 1]'hi) := fun d => by
    induction d with
    | zero => exact fun i hi => step i hi
    | succ d ih => exact fun i hi => ltD_trans (ih i (by omega)) (step (i + d + 1) (by omega))
  rw [List.pairwise_iff_getElem]
  intro i j hi hj hij
  obtain ⟨d, rfl⟩ : ∃ d, j = i + d + 1 := ⟨j - i - 1, by omega⟩
  exact far d i hj
theorem spec_merge_pos {a b : List S81} (ha : PTab a) (hb : PTab b) : Ev (fun k => spec_MergeTables.f k a b) (mergeR (insAll a b)) := by
  have h1 := ha.1
  have h2 := hb.1
  unfold spec_MergeTables.f
  refine Ev.bind (Ev_eq (spec_IsTable_ev a (by omega)) (tt_pos ha)) ?_
  simp only [if_true]
  refine Ev.bind (Ev_eq (spec_IsTable_ev b (by omega)) (tt_pos hb)) ?_
  refine Ev_shift ?_
  simp only [spec_MergeTables.j0, Bool.not_true, Bool.false_eq_true, if_false, Option.bind_some, List.length_nil, if_pos (show 0 + a.length < 5864062014805 by omega), List.nil_append]
  exact spec_merge_l0 a b (by omega) b 0 a (by omega) (by omega) rfl (by omega)
theorem impl_merge_pos {a b : List S81} (ha : PTab a) (hb : PTab b) : Ev (fun k => impl_MergeTables.f k a b) (mergeR (insAll a b)) := by
  have h1 := ha.1
  have h2 := hb.1
  unfold impl_MergeTables.f
  refine Ev.bind (Ev_eq (impl_IsTable_ev a (by omega)) (tt_pos ha)) ?_
  simp only [if_true]
  refine Ev.bind (Ev_eq (impl_IsTable_ev b (by omega)) (tt_pos hb)) ?_
  refine Ev_shift ?_
  simp only [impl_MergeTables.j0, Bool.not_true, Bool.false_eq_true, if_false, Option.bind_some, List.length_nil, if_pos (show 0 + a.length < 5864062014805 by omega), List.nil_append, if_pos (show a.length + b.length < 5864062014805 by omega)]
  have := impl_merge_l0 (a ++ b) (by rw [List.length_append]; omega) (a ++ b) 0 [] (by omega) (by omega) rfl (by rw [List.length_append, List.length_nil]; omega) List.Pairwise.nil
  rw [insAll_app, insAll_self a [] (by rw [List.nil_append]; exact tab_srt ha), List.nil_append] at this
  exact this
theorem merge_neg {a b : List S81} (la : a.length ≤ 1000000) (lb : b.length ≤ 1000000) (h : ¬ (PTab a ∧ PTab b)) : Ev (fun k => spec_MergeTables.f k a b) ([], 1) ∧ Ev (fun k => impl_MergeTables.f k a b) ([], 1) := by
  have js : Ev (fun k => spec_MergeTables.j0 k a b true) ([], 1) := by
    refine Ev_shift ?_
    simp only [spec_MergeTables.j0, if_true]
    exact Ev.now _
  have ji : Ev (fun k => impl_MergeTables.j0 k a b true) ([], 1) := by
    refine Ev_shift ?_
    simp only [impl_MergeTables.j0, if_true]
    exact Ev.now _
  unfold spec_MergeTables.f impl_MergeTables.f
  by_cases ha : PTab a
  · have hb : ¬ PTab b := fun hb => h ⟨ha, hb⟩
    refine ⟨Ev.bind (Ev_eq (spec_IsTable_ev a (by omega)) (tt_pos ha)) ?_, Ev.bind (Ev_eq (impl_IsTable_ev a (by omega)) (tt_pos ha)) ?_⟩
    · simp only [if_true]
      exact Ev.bind (Ev_eq (spec_IsTable_ev b (by omega)) (tt_neg hb)) js
    · simp only [if_true]
      exact Ev.bind (Ev_eq (impl_IsTable_ev b (by omega)) (tt_neg hb)) ji
  · refine ⟨Ev.bind (Ev_eq (spec_IsTable_ev a (by omega)) (tt_neg ha)) ?_, Ev.bind (Ev_eq (impl_IsTable_ev a (by omega)) (tt_neg ha)) ?_⟩
    · simp only [Bool.false_eq_true, if_false]
      exact js
    · simp only [Bool.false_eq_true, if_false]
      exact ji
theorem mergeR_length (l : List S81) : (mergeR l).1.length ≤ 12 := by
  unfold mergeR
  split
  · exact Nat.zero_le _
  · rw [runM_length]
    omega
theorem agree_MergeTables (m0 : List S81) (m1 : List S81) (hn0 : m0.length ≤ 1000000) (hq0 : ∀ x ∈ m0, (I64 x.f0 ∧ I64 x.f1 ∧ I64 x.f2)) (hn1 : m1.length ≤ 1000000) (hq1 : ∀ x ∈ m1, (I64 x.f0 ∧ I64 x.f1 ∧ I64 x.f2)) : ∃ (K : Nat) (r1 : List S81) (r2 : Int), r1.length ≤ 10000000 ∧ ∀ k, K ≤ k → spec_MergeTables.f k m0 m1 = some (r1, r2) ∧ impl_MergeTables.f k m0 m1 = some (r1, r2) := by
  by_cases h : PTab m0 ∧ PTab m1
  · obtain ⟨K, hk⟩ := Ev_both (spec_merge_pos h.1 h.2) (impl_merge_pos h.1 h.2)
    have := mergeR_length (insAll m0 m1)
    exact ⟨K, (mergeR (insAll m0 m1)).1, (mergeR (insAll m0 m1)).2, by omega, hk⟩
  · obtain ⟨h1, h2⟩ := merge_neg hn0 hn1 h
    obtain ⟨K, hk⟩ := Ev_both h1 h2
    exact ⟨K, [], 1, by simp, hk⟩
end Go.Proofs.Ytedcdhnbceaaeaa.Pure
