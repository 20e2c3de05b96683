/- PureFnExactWireAll of the law FnExactWireAll: taken over, declaration by declaration, as far as the law leans on it (the words and the printed functions are the kit's own print). No condition but what each says. -/
import Derived.Test.YtalcbcelalbhiaaZFnExactWireAllav
import Derived.Test.YtalcbcelalbhiaaZFnExactWireAllax
import Derived.Test.YtalcbcelalbhiaaZFnExactWireAllay
import Derived.Test.YtalcbcelalbhiaaZFnExactWireAllaz
import Derived.Test.YtalcbcelalbhiaaZFnExactWireAllba
import Derived.Test.YtalcbcelalbhiaaZFnExactWireAllbb
import Derived.Test.YtalcbcelalbhiaaZFnExactWireAllbc
import Derived.Test.YtalcbcelalbhiaaZFnExactWireAllbd
import Derived.Test.YtalcbcelalbhiaaZFnExactWireAllbe
import Derived.Test.YtalcbcelalbhiaaZFnExactWireAllbf
namespace Go.Proofs.Ytalcbcelalbhiaa.Pure
open Go.RowKit Go.Proofs.Ytalcbcelalbhiaa.PFnExactWireAll Go.Proofs.YtalcbcelalbhiaaW.PrintWords Go.Proofs.YtalcbcelalbhiaaW.PrintLast Go.Proofs.Ytalcbcelalbhiaa.Opening
set_option linter.unusedVariables false
set_option linter.unusedSimpArgs false
theorem w64 {n : Int} (h : -9223372036854775808 ≤ n ∧ n ≤ 9223372036854775807) : wrap64 n = n := by
  unfold wrap64
  omega
theorem l01In_eq (a b c : Int) : spec_l01In.f a b c = some (decide (b ≤ a ∧ a ≤ c)) := by
  unfold spec_l01In.f
  by_cases h : b ≤ a <;> simp [h]
theorem within_eq (a b c : Int) : impl_within.f a b c = some (decide (b ≤ a ∧ a ≤ c)) := by
  unfold impl_within.f
  by_cases h : b ≤ a <;> simp [h]
theorem drop_cons {α : Type} {l : List α} {i : Int} {a : α} {s : List α} (z : α) (h0 : 0 ≤ i) (h : l.drop i.toNat = a :: s) : i < l.length ∧ l.getD i.toNat z = a ∧ l.drop (i + 1).toNat = s := by
  have hlt : i.toNat < l.length := by
    rcases Nat.lt_or_ge i.toNat l.length with h1 | h1
    · exact h1
    · rw [List.drop_eq_nil_of_le h1] at h; cases h
  rw [List.drop_eq_getElem_cons hlt] at h
  injection h with h1 h2
  refine ⟨by omega, ?_, ?_⟩
  · rw [List.getD_eq_getElem?_getD, List.getElem?_eq_getElem hlt]; exact h1
  · rw [show (i + 1).toNat = i.toNat + 1 by omega]; exact h2
theorem drop_nil {α : Type} {l : List α} {i : Int} (h0 : 0 ≤ i) (h : l.drop i.toNat = []) : ¬ i < (l.length : Int) := by
  have := List.drop_eq_nil_iff.1 h
  omega
theorem Ev_shift {α : Type} {g : Nat → Option α} {r : α} (h : Ev (fun k => g (k + 1)) r) : Ev g r := Ev.step (fun _ => rfl) h
theorem Ev_both {α β : Type} {g : Nat → Option α} {f : Nat → Option β} {r : α} {q : β} (h1 : Ev g r) (h2 : Ev f q) : ∃ K, ∀ k, K ≤ k → g k = some r ∧ f k = some q := by
  obtain ⟨K, h1⟩ := h1
  obtain ⟨K', h2⟩ := h2
  exact ⟨max K K', fun k hk => ⟨h1 k (by omega), h2 k (by omega)⟩⟩
theorem Ev_eq {α : Type} {g : Nat → Option α} {r q : α} (h : Ev g r) (e : r = q) : Ev g q := e ▸ h
theorem Ev_some {α : Type} {r q : α} (e : r = q) : Ev (fun _ => some r) q := e ▸ Ev.now r
noncomputable def tt (p : Prop) : Bool := @decide p (Classical.propDecidable p)
theorem tt_pos {p : Prop} (h : p) : tt p = true := by unfold tt; exact @decide_eq_true p (Classical.propDecidable p) h
theorem tt_neg {p : Prop} (h : ¬ p) : tt p = false := by unfold tt; exact @decide_eq_false p (Classical.propDecidable p) h
theorem tt_dec (p : Prop) [i : Decidable p] : tt p = decide p := by
  by_cases h : p
  · rw [tt_pos h, decide_eq_true h]
  · rw [tt_neg h, decide_eq_false h]
theorem tt_iff {p q : Prop} (h : p ↔ q) : tt p = tt q := by rw [propext h]
theorem tt_and (p q : Prop) : (tt p && tt q) = tt (p ∧ q) := by
  by_cases h : p
  · rw [tt_pos h, Bool.true_and]; exact tt_iff ⟨fun x => ⟨h, x⟩, fun x => x.2⟩
  · rw [tt_neg h, Bool.false_and, tt_neg (fun x => h x.1)]
theorem tt_eq_true {p : Prop} : tt p = true ↔ p := by
  by_cases h : p
  · exact ⟨fun _ => h, fun _ => tt_pos h⟩
  · refine ⟨fun e => ?_, fun h' => absurd h' h⟩
    rw [tt_neg h] at e
    cases e
theorem ev_all {L : Int → Nat → Option Bool} {P : Int → Prop} {n : Int} {fin : Bool} (h1 : ∀ i, 0 ≤ i → i < n → P i → ∀ r, Ev (L (i + 1)) r → Ev (L i) r) (h2 : ∀ i, 0 ≤ i → i < n → ¬ P i → Ev (L i) false) (h3 : Ev (L n) fin) :
    ∀ (d : Nat) (i : Int), 0 ≤ i → i + d = n → Ev (L i) (fin && tt (∀ j, i ≤ j → j < n → P j))
  | 0, i, h0, hd => by
    have e : i = n := by omega
    rw [e, tt_pos (fun j h1 h2 => by omega), Bool.and_true]
    exact h3
  | d + 1, i, h0, hd => by
    by_cases hp : P i
    · have := h1 i h0 (by omega) hp _ (ev_all h1 h2 h3 d (i + 1) (by omega) (by omega))
      refine Ev_eq this ?_
      congr 1
      exact tt_iff ⟨fun h j h1 h2 => by
        by_cases e : j = i
        · rw [e]; exact hp
        · exact h j (by omega) h2, fun h j h1 h2 => h j (by omega) h2⟩
    · rw [tt_neg (fun h => hp (h i (Int.le_refl _) (by omega))), Bool.and_false]
      exact h2 i h0 (by omega) hp
/-- The numbers from i on, d of them looked at, that are told true. -/
def idxF (p : Int → Bool) : Nat → Int → List Int
  | 0, _ => []
  | d + 1, i => if p i = true then i :: idxF p d (i + 1) else idxF p d (i + 1)
theorem idxF_length (p : Int → Bool) : ∀ (d : Nat) (i : Int), (idxF p d i).length ≤ d
  | 0, _ => Nat.le_refl _
  | d + 1, i => by
    unfold idxF
    have := idxF_length p d (i + 1)
    split
    · simp only [List.length_cons]
      omega
    · omega
theorem ev_filter {ρ : Type} {L : Int → List Int → Nat → Option ρ} {p : Int → Bool} {n : Int} {fin : List Int → ρ}
    (h1 : ∀ (i : Int) (out : List Int), 0 ≤ i → i < n → (out.length : Int) ≤ i → p i = true → ∀ r, Ev (L (i + 1) (out ++ [i])) r → Ev (L i out) r)
    (h2 : ∀ (i : Int) (out : List Int), 0 ≤ i → i < n → (out.length : Int) ≤ i → p i = false → ∀ r, Ev (L (i + 1) out) r → Ev (L i out) r)
    (h3 : ∀ out : List Int, (out.length : Int) ≤ n → Ev (L n out) (fin out)) :
    ∀ (d : Nat) (i : Int) (out : List Int), 0 ≤ i → i + d = n → (out.length : Int) ≤ i → Ev (L i out) (fin (out ++ idxF p d i))
  | 0, i, out, h0, hd, hl => by
    have e : i = n := by omega
    subst e
    simp only [idxF, List.append_nil]
    exact h3 out hl
  | d + 1, i, out, h0, hd, hl => by
    unfold idxF
    cases hp : p i with
    | true =>
      refine h1 i out h0 (by omega) hl hp _ ?_
      have := ev_filter h1 h2 h3 d (i + 1) (out ++ [i]) (by omega) (by omega) (by simp; omega)
      simpa using this
    | false =>
      refine h2 i out h0 (by omega) hl hp _ ?_
      have := ev_filter h1 h2 h3 d (i + 1) out (by omega) (by omega) (by omega)
      simpa using this
theorem set_at_mid {α : Type} (p : List α) (b v : α) (s : List α) : (p ++ b :: s).set ((p.length : Int)).toNat v = p ++ v :: s := by
  rw [Int.toNat_natCast, List.set_append_right _ _ (Nat.le_refl _)]
  simp
theorem getD_at_mid {α : Type} (z : α) (p : List α) (b : α) (s : List α) : (p ++ b :: s).getD ((p.length : Int)).toNat z = b := by
  rw [Int.toNat_natCast, List.getD_eq_getElem?_getD, List.getElem?_append_right (Nat.le_refl _)]
  simp
theorem mx_eq (a b : Int) : mx a b = max a b := by
  unfold mx
  omega
/-- A module's own numbers are right at its place. -/
def PM (l : List S98) (i : Int) : Prop := 0 ≤ (rd_T98 l i).f1 ∧ (rd_T98 l i).f1 ≤ 32 ∧ (i = 0 → (rd_T98 l i).f0 = -1) ∧ (0 < i → 0 ≤ (rd_T98 l i).f0 ∧ (rd_T98 l i).f0 ≤ i - 1)
def PMods (l : List S98) : Prop := 1 ≤ l.length ∧ l.length ≤ 12 ∧ ∀ j : Int, 0 ≤ j → j < l.length → PM l j
theorem spec_AreModules_ev (l : List S98) (hn : l.length ≤ 140737488351232) : Ev (fun k => spec_AreModules.f k l) (tt (PMods l)) := by
  unfold spec_AreModules.f
  have := ev_all (L := fun i k => spec_AreModules.l0 k l i) (P := PM l) (n := l.length) (fin := decide (1 ≤ l.length ∧ l.length ≤ 12)) (fun i h0 h1 hp r hr => ?_) (fun i h0 h1 hp => ?_) ?_ l.length 0 (by omega) (by omega)
  · refine Ev_eq this ?_
    rw [← tt_dec, tt_and]
    exact tt_iff ⟨fun h => ⟨h.1.1, h.1.2, fun j h0 h1 => h.2 j h0 h1⟩, fun h => ⟨⟨h.1, h.2.1⟩, fun j h0 h1 => h.2.2 j h0 h1⟩⟩
  · refine Ev_shift ?_
    unfold PM at hp
    simp only [spec_AreModules.l0, if_pos h1, if_pos h0, l01In_eq, Option.bind_some]
    simp only [decide_eq_true_eq]
    simp only [if_pos (And.intro hp.1 hp.2.1)]
    rw [w64 (n := i + 1) (by omega)]
    by_cases h : i = 0
    · simp only [if_pos h, if_pos (hp.2.2.1 h), if_neg (show ¬ i > 0 by omega)]
      exact hr
    · simp only [if_neg h, if_pos (show i > 0 by omega), w64 (n := i - 1) (by omega)]
      have := hp.2.2.2 (by omega)
      simp only [if_pos this]
      exact hr
  · refine Ev_shift ?_
    unfold PM at hp
    simp only [spec_AreModules.l0, if_pos h1, if_pos h0, l01In_eq, Option.bind_some]
    simp only [decide_eq_true_eq]
    by_cases hq : 0 ≤ (rd_T98 l i).f1 ∧ (rd_T98 l i).f1 ≤ 32
    · simp only [if_pos hq]
      by_cases h : i = 0
      · by_cases h2 : (rd_T98 l i).f0 = -1
        · exact absurd ⟨hq.1, hq.2, fun _ => h2, fun h => by omega⟩ hp
        · simp only [if_pos h, if_neg h2]
          exact Ev.now _
      · simp only [if_neg h, if_pos (show i > 0 by omega), w64 (n := i - 1) (by omega)]
        by_cases h2 : 0 ≤ (rd_T98 l i).f0 ∧ (rd_T98 l i).f0 ≤ i - 1
        · exact absurd ⟨hq.1, hq.2, fun h => by omega, fun _ => h2⟩ hp
        · simp only [if_neg h2]
          exact Ev.now _
    · simp only [if_neg hq]
      exact Ev.now _
  · refine Ev_shift ?_
    simp only [spec_AreModules.l0, if_neg (show ¬ (l.length : Int) < l.length by omega), l01In_eq, Option.bind_some]
    exact Ev_some (by congr 1; exact propext ⟨fun h => by omega, fun h => by omega⟩)
theorem impl_AreModules_l0 (l : List S98) (hn : l.length ≤ 140737488351232) (hz : (rd_T98 l 0).f0 = -1) : Ev (fun k => impl_AreModules.l0 k l l.length 0) (tt (∀ j : Int, 0 ≤ j → j < l.length → PM l j)) := by
  have := ev_all (L := fun i k => impl_AreModules.l0 k l l.length i) (P := PM l) (n := l.length) (fin := true) (fun i h0 h1 hp r hr => ?_) (fun i h0 h1 hp => ?_) ?_ l.length 0 (by omega) (by omega)
  · refine Ev_eq this ?_
    rw [Bool.true_and]
  · refine Ev_shift ?_
    unfold PM at hp
    simp only [impl_AreModules.l0, if_pos h1, if_pos h0, within_eq, Option.bind_some]
    simp only [decide_eq_true_eq]
    simp only [if_pos (And.intro hp.1 hp.2.1)]
    rw [w64 (n := i + 1) (by omega)]
    by_cases h : i = 0
    · simp only [if_neg (show ¬ i > 0 by omega)]
      exact hr
    · simp only [if_pos (show i > 0 by omega), w64 (n := i - 1) (by omega)]
      have := hp.2.2.2 (by omega)
      simp only [if_pos this]
      exact hr
  · refine Ev_shift ?_
    unfold PM at hp
    simp only [impl_AreModules.l0, if_pos h1, if_pos h0, within_eq, Option.bind_some]
    simp only [decide_eq_true_eq]
    by_cases hq : 0 ≤ (rd_T98 l i).f1 ∧ (rd_T98 l i).f1 ≤ 32
    · simp only [if_pos hq]
      by_cases h : i = 0
      · exact absurd ⟨hq.1, hq.2, fun h => by rw [h]; exact hz, fun h => by omega⟩ hp
      · simp only [if_pos (show i > 0 by omega), w64 (n := i - 1) (by omega)]
        by_cases h2 : 0 ≤ (rd_T98 l i).f0 ∧ (rd_T98 l i).f0 ≤ i - 1
        · exact absurd ⟨hq.1, hq.2, fun h => by omega, fun _ => h2⟩ hp
        · simp only [if_neg h2]
          exact Ev.now _
    · simp only [if_neg hq]
      exact Ev.now _
  · refine Ev_shift ?_
    simp only [impl_AreModules.l0, if_neg (show ¬ (l.length : Int) < l.length by omega)]
    exact Ev.now _
theorem impl_AreModules_ev (l : List S98) (hn : l.length ≤ 140737488351232) : Ev (fun k => impl_AreModules.f k l) (tt (PMods l)) := by
  unfold impl_AreModules.f
  have bad : ∀ {q : Prop}, ¬ q → (q ↔ PMods l) → Ev (fun k => impl_AreModules.j0 k l true) (tt (PMods l)) := by
    intro q hq e
    refine Ev_shift ?_
    simp only [impl_AreModules.j0, if_true]
    exact Ev_some (tt_neg (fun h => hq (e.2 h))).symm
  by_cases h1 : (l.length : Int) < 1
  · simp only [if_pos h1]
    exact bad (q := False) (fun h => h) ⟨fun h => h.elim, fun h => by have := h.1; omega⟩
  · simp only [if_neg h1]
    by_cases h2 : (l.length : Int) > 12
    · simp only [if_pos h2]
      exact bad (q := False) (fun h => h) ⟨fun h => h.elim, fun h => by have := h.2.1; omega⟩
    · simp only [if_neg h2, if_pos (show 0 < (l.length : Int) by omega)]
      by_cases hz : (rd_T98 l 0).f0 = -1
      · rw [hz]
        refine Ev_shift ?_
        simp only [impl_AreModules.j0, bne_self_eq_false, Bool.false_eq_true, if_false]
        refine Ev_eq (impl_AreModules_l0 l hn hz) (tt_iff ⟨fun h => ⟨by omega, by omega, h⟩, fun h => h.2.2⟩)
      · have e : ((rd_T98 l 0).f0 != -1) = true := by simpa using hz
        rw [e]
        exact bad (q := False) (fun h => h) ⟨fun h => h.elim, fun h => hz ((h.2.2 0 (by omega) (by omega)).2.2.1 rfl)⟩
theorem idxF_mem (p : Int → Bool) : ∀ (d : Nat) (i x : Int), x ∈ idxF p d i ↔ i ≤ x ∧ x < i + d ∧ p x = true
  | 0, i, x => by simp [idxF]; omega
  | d + 1, i, x => by
    unfold idxF
    have ih := idxF_mem p d (i + 1) x
    by_cases hp : p i = true
    · rw [if_pos hp, List.mem_cons, ih]
      constructor
      · rintro (rfl | h)
        · exact ⟨by omega, by omega, hp⟩
        · exact ⟨by omega, by omega, h.2.2⟩
      · rintro ⟨a, b, c⟩
        by_cases e : x = i
        · exact .inl e
        · exact .inr ⟨by omega, by omega, c⟩
    · rw [if_neg hp, ih]
      constructor
      · rintro ⟨a, b, c⟩
        exact ⟨by omega, by omega, c⟩
      · rintro ⟨a, b, c⟩
        by_cases e : x = i
        · rw [e] at c
          exact absurd c hp
        · exact ⟨by omega, by omega, c⟩
theorem ev_allI {L : Int → Nat → Option Bool} {Q : Int → Prop} {n : Int} {fin : Bool} (h1 : ∀ i, 0 ≤ i → i < n → (∀ j, 0 ≤ j → j < i → Q j) → Q i → ∀ r, Ev (L (i + 1)) r → Ev (L i) r) (h2 : ∀ i, 0 ≤ i → i < n → (∀ j, 0 ≤ j → j < i → Q j) → ¬ Q i → Ev (L i) false) (h3 : Ev (L n) fin) :
    ∀ (d : Nat) (i : Int), 0 ≤ i → i + d = n → (∀ j, 0 ≤ j → j < i → Q j) → Ev (L i) (fin && tt (∀ j, i ≤ j → j < n → Q j))
  | 0, i, h0, hd, hp => by
    have e : i = n := by omega
    rw [e, tt_pos (fun j h1 h2 => by omega), Bool.and_true]
    exact h3
  | d + 1, i, h0, hd, hp => by
    by_cases hq : Q i
    · have := h1 i h0 (by omega) hp hq _ (ev_allI h1 h2 h3 d (i + 1) (by omega) (by omega) (fun j j0 j1 => by
        by_cases e : j = i
        · rw [e]; exact hq
        · exact hp j j0 (by omega)))
      refine Ev_eq this ?_
      congr 1
      exact tt_iff ⟨fun h j h1 h2 => by
        by_cases e : j = i
        · rw [e]; exact hq
        · exact h j (by omega) h2, fun h j h1 h2 => h j (by omega) h2⟩
    · rw [tt_neg (fun h => hq (h i (Int.le_refl _) (by omega))), Bool.and_false]
      exact h2 i h0 (by omega) hp hq
/-- Wires. -/
def MW (w : List S103) (m p j : Int) : Prop := (rd_T103 w j).f1 = m ∧ (rd_T103 w j).f2 = p
def PPin (l : List S98) (m p : Int) : Prop := (0 ≤ m ∧ m ≤ (l.length : Int) - 1) ∧ 0 ≤ p ∧ p ≤ (rd_T98 l m).f1 - 1
def QW (l : List S98) (n : Int) (w : List S103) (i : Int) : Prop :=
  (0 ≤ (rd_T103 w i).f0 ∧ (rd_T103 w i).f0 ≤ n - 1) ∧ PPin l (rd_T103 w i).f1 (rd_T103 w i).f2 ∧ (0 < i → (rd_T103 w (i - 1)).f0 < (rd_T103 w i).f0) ∧ ∀ j : Int, 0 ≤ j → j < i → ¬ MW w (rd_T103 w i).f1 (rd_T103 w i).f2 j
def PWires (l : List S98) (n : Int) (w : List S103) : Prop := PMods l ∧ (0 ≤ n ∧ n ≤ 20) ∧ ∀ i : Int, 0 ≤ i → i < w.length → QW l n w i
theorem spec_l13At_l0 (w : List S103) (hn : w.length ≤ 2000000) (m p : Int) : ∀ (d : Nat) (i : Int), 0 ≤ i → i + d = w.length → (∀ j : Int, 0 ≤ j → j < i → ¬ MW w m p j) → ∃ r, Ev (fun k => spec_l13At.l0 k w m p i) r ∧ ((r = -1 ∧ ∀ j : Int, 0 ≤ j → j < w.length → ¬ MW w m p j) ∨ (0 ≤ r ∧ r < w.length ∧ MW w m p r ∧ ∀ j : Int, 0 ≤ j → j < r → ¬ MW w m p j))
  | 0, i, h0, hd, hp => by
    refine ⟨-1, Ev_shift ?_, .inl ⟨rfl, fun j j0 j1 => hp j j0 (by omega)⟩⟩
    simp only [spec_l13At.l0, if_neg (show ¬ i < (w.length : Int) by omega)]
    exact Ev.now _
  | d + 1, i, h0, hd, hp => by
    have hi : i < (w.length : Int) := by omega
    have more : ¬ MW w m p i → ∃ r, Ev (fun k => spec_l13At.l0 k w m p (i + 1)) r ∧ ((r = -1 ∧ ∀ j : Int, 0 ≤ j → j < w.length → ¬ MW w m p j) ∨ (0 ≤ r ∧ r < w.length ∧ MW w m p r ∧ ∀ j : Int, 0 ≤ j → j < r → ¬ MW w m p j)) := fun hm => spec_l13At_l0 w hn m p d (i + 1) (by omega) (by omega) (fun j j0 j1 => by
      by_cases e : j = i
      · rw [e]; exact hm
      · exact hp j j0 (by omega))
    by_cases c1 : (rd_T103 w i).f1 = m
    · by_cases c2 : (rd_T103 w i).f2 = p
      · refine ⟨i, Ev_shift ?_, .inr ⟨h0, hi, ⟨c1, c2⟩, hp⟩⟩
        simp only [spec_l13At.l0, if_pos hi, if_pos h0, if_pos c1, if_pos c2]
        exact Ev.now _
      · obtain ⟨r, e, hr⟩ := more (fun h => c2 h.2)
        refine ⟨r, Ev_shift ?_, hr⟩
        simp only [spec_l13At.l0, if_pos hi, if_pos h0, if_pos c1, if_neg c2, w64 (n := i + 1) (by omega)]
        exact e
    · obtain ⟨r, e, hr⟩ := more (fun h => c1 h.1)
      refine ⟨r, Ev_shift ?_, hr⟩
      simp only [spec_l13At.l0, if_pos hi, if_pos h0, if_neg c1, w64 (n := i + 1) (by omega)]
      exact e
theorem spec_l13At_ev (w : List S103) (hn : w.length ≤ 2000000) (m p : Int) : ∃ r, Ev (fun k => spec_l13At.f k w m p) r ∧ ((r = -1 ∧ ∀ j : Int, 0 ≤ j → j < w.length → ¬ MW w m p j) ∨ (0 ≤ r ∧ r < w.length ∧ MW w m p r ∧ ∀ j : Int, 0 ≤ j → j < r → ¬ MW w m p j)) := by
  unfold spec_l13At.f
  exact spec_l13At_l0 w hn m p w.length 0 (by omega) (by omega) (fun j j0 j1 => by omega)
theorem impl_cueAt_l0 (w : List S103) (hn : w.length ≤ 2000000) (m p : Int) : ∀ (d : Nat) (i : Int), 0 ≤ i → i + d = w.length → (∀ j : Int, 0 ≤ j → j < i → ¬ MW w m p j) → ∃ r, Ev (fun k => impl_cueAt.l0 k m p w w.length i) r ∧ ((r = -1 ∧ ∀ j : Int, 0 ≤ j → j < w.length → ¬ MW w m p j) ∨ ∃ q : Int, 0 ≤ q ∧ q < w.length ∧ MW w m p q ∧ r = (rd_T103 w q).f0)
  | 0, i, h0, hd, hp => by
    refine ⟨-1, Ev_shift ?_, .inl ⟨rfl, fun j j0 j1 => hp j j0 (by omega)⟩⟩
    simp only [impl_cueAt.l0, if_neg (show ¬ i < (w.length : Int) by omega)]
    exact Ev.now _
  | d + 1, i, h0, hd, hp => by
    have hi : i < (w.length : Int) := by omega
    have more : ¬ MW w m p i → ∃ r, Ev (fun k => impl_cueAt.l0 k m p w w.length (i + 1)) r ∧ ((r = -1 ∧ ∀ j : Int, 0 ≤ j → j < w.length → ¬ MW w m p j) ∨ ∃ q : Int, 0 ≤ q ∧ q < w.length ∧ MW w m p q ∧ r = (rd_T103 w q).f0) := fun hm => impl_cueAt_l0 w hn m p d (i + 1) (by omega) (by omega) (fun j j0 j1 => by
      by_cases e : j = i
      · rw [e]; exact hm
      · exact hp j j0 (by omega))
    by_cases c1 : (rd_T103 w i).f1 = m
    · by_cases c2 : (rd_T103 w i).f2 = p
      · refine ⟨_, Ev_shift ?_, .inr ⟨i, h0, hi, ⟨c1, c2⟩, rfl⟩⟩
        simp only [impl_cueAt.l0, if_pos hi, if_pos h0, if_pos c1, if_pos c2]
        exact Ev.now _
      · obtain ⟨r, e, hr⟩ := more (fun h => c2 h.2)
        refine ⟨r, Ev_shift ?_, hr⟩
        simp only [impl_cueAt.l0, if_pos hi, if_pos h0, if_pos c1, if_neg c2, w64 (n := i + 1) (by omega)]
        exact e
    · obtain ⟨r, e, hr⟩ := more (fun h => c1 h.1)
      refine ⟨r, Ev_shift ?_, hr⟩
      simp only [impl_cueAt.l0, if_pos hi, if_pos h0, if_neg c1, w64 (n := i + 1) (by omega)]
      exact e
theorem impl_cueAt_ev (w : List S103) (hn : w.length ≤ 2000000) (m p : Int) : ∃ r, Ev (fun k => impl_cueAt.f k w m p) r ∧ ((r = -1 ∧ ∀ j : Int, 0 ≤ j → j < w.length → ¬ MW w m p j) ∨ ∃ q : Int, 0 ≤ q ∧ q < w.length ∧ MW w m p q ∧ r = (rd_T103 w q).f0) := by
  unfold impl_cueAt.f
  exact impl_cueAt_l0 w hn m p w.length 0 (by omega) (by omega) (fun j j0 j1 => by omega)
theorem spec_pin_eq {l : List S98} (h : PMods l) (m p : Int) : spec_l13Pin.f l m p = some (tt (PPin l m p)) := by
  have hl := h.2.1
  unfold spec_l13Pin.f
  rw [w64 (n := (l.length : Int) - 1) (by omega), l01In_eq, Option.bind_some]
  by_cases c : 0 ≤ m ∧ m ≤ (l.length : Int) - 1
  · have hp := h.2.2 m c.1 (by omega)
    unfold PM at hp
    rw [decide_eq_true c, if_pos rfl, if_pos c.1, if_pos (by omega), w64 (n := (rd_T98 l m).f1 - 1) (by omega), l01In_eq, Option.bind_some, ← tt_dec]
    congr 1
    exact tt_iff ⟨fun h => ⟨c, h⟩, fun h => h.2⟩
  · rw [decide_eq_false c, if_neg (by decide), tt_neg (fun h => c h.1)]
theorem impl_pin_eq {l : List S98} (h : PMods l) (m p : Int) : impl_isPin.f l m p = some (tt (PPin l m p)) := by
  have hl := h.2.1
  unfold impl_isPin.f impl_isIndex.f
  rw [w64 (n := (l.length : Int) - 1) (by omega), within_eq, Option.bind_some, Option.bind_some]
  by_cases c : 0 ≤ m ∧ m ≤ (l.length : Int) - 1
  · have hp := h.2.2 m c.1 (by omega)
    unfold PM at hp
    rw [decide_eq_true c, if_pos rfl, if_pos c.1, if_pos (by omega), w64 (n := (rd_T98 l m).f1 - 1) (by omega), within_eq, Option.bind_some, ← tt_dec]
    congr 1
    exact tt_iff ⟨fun h => ⟨c, h⟩, fun h => h.2⟩
  · rw [decide_eq_false c, if_neg (by decide), tt_neg (fun h => c h.1)]
theorem spec_AreWires_ev (l : List S98) (hl : l.length ≤ 1000000) (n : Int) (w : List S103) (hn : w.length ≤ 1000000) : Ev (fun k => spec_AreWires.f k l n w) (tt (PWires l n w)) := by
  have hs := spec_AreModules_ev l (by omega)
  have bad : ¬ PWires l n w → Ev (fun k => spec_AreWires.j0 k l n w true) (tt (PWires l n w)) := fun h => by
    refine Ev_shift ?_
    simp only [spec_AreWires.j0, if_true]
    exact Ev_some (tt_neg h).symm
  unfold spec_AreWires.f
  refine Ev.bind hs ?_
  by_cases h : PMods l
  · by_cases c : 0 ≤ n ∧ n ≤ 20
    · simp only [tt_pos h, if_true, l01In_eq, Option.bind_some, decide_eq_true c, Bool.not_true]
      refine Ev_shift ?_
      simp only [spec_AreWires.j0, Bool.false_eq_true, if_false]
      have := ev_allI (L := fun i k => spec_AreWires.l0 k l n w i) (Q := QW l n w) (n := w.length) (fin := true)
        (fun i h0 h1 hp hq r hr => by
          have hc := hq.1
          obtain ⟨z, ez, hz⟩ := spec_l13At_ev w (by omega) (rd_T103 w i).f1 (rd_T103 w i).f2
          have e : z = i := by
            rcases hz with ⟨_, hz⟩ | ⟨z0, z1, zm, hz⟩
            · exact absurd ⟨rfl, rfl⟩ (hz i h0 h1)
            · rcases Int.lt_or_le z i with g | g
              · exact absurd zm (hq.2.2.2 z z0 g)
              · rcases Int.lt_or_le i z with g2 | g2
                · exact absurd ⟨rfl, rfl⟩ (hz i h0 g2)
                · omega
          refine Ev_shift ?_
          simp only [spec_AreWires.l0, if_pos h1, if_pos h0, w64 (n := n - 1) (by omega), l01In_eq, Option.bind_some, decide_eq_true_eq, if_pos hc, spec_pin_eq h, tt_pos hq.2.1, if_true, w64 (n := i + 1) (by omega)]
          by_cases hi : i > 0
          · have := hq.2.2.1 hi
            simp only [if_pos hi, w64 (n := i - 1) (by omega), if_pos (show 0 ≤ i - 1 by omega), if_pos (show i - 1 < (w.length : Int) by omega), if_neg (show ¬ (rd_T103 w (i - 1)).f0 ≥ (rd_T103 w i).f0 by omega)]
            refine Ev.bind ez ?_
            simp only [if_pos e]
            exact hr
          · simp only [if_neg hi]
            refine Ev.bind ez ?_
            simp only [if_pos e]
            exact hr)
        (fun i h0 h1 hp hq => by
          obtain ⟨z, ez, hz⟩ := spec_l13At_ev w (by omega) (rd_T103 w i).f1 (rd_T103 w i).f2
          refine Ev_shift ?_
          simp only [spec_AreWires.l0, if_pos h1, if_pos h0, w64 (n := n - 1) (by omega), l01In_eq, Option.bind_some, decide_eq_true_eq, spec_pin_eq h, w64 (n := i + 1) (by omega)]
          by_cases q1 : 0 ≤ (rd_T103 w i).f0 ∧ (rd_T103 w i).f0 ≤ n - 1
          · by_cases q2 : PPin l (rd_T103 w i).f1 (rd_T103 w i).f2
            · have last : (0 < i → (rd_T103 w (i - 1)).f0 < (rd_T103 w i).f0) → ¬ z = i := fun q3 e => by
                rcases hz with ⟨g, _⟩ | ⟨z0, z1, zm, hz⟩
                · omega
                · exact hq ⟨q1, q2, q3, fun j j0 j1 => hz j j0 (by omega)⟩
              simp only [if_pos q1, tt_pos q2, if_true]
              by_cases hi : i > 0
              · simp only [if_pos hi, w64 (n := i - 1) (by omega), if_pos (show 0 ≤ i - 1 by omega), if_pos (show i - 1 < (w.length : Int) by omega)]
                by_cases q3 : (rd_T103 w (i - 1)).f0 ≥ (rd_T103 w i).f0
                · simp only [if_pos q3]
                  exact Ev.now _
                · simp only [if_neg q3]
                  refine Ev.bind ez ?_
                  simp only [if_neg (last (fun _ => by omega))]
                  exact Ev.now _
              · simp only [if_neg hi]
                refine Ev.bind ez ?_
                simp only [if_neg (last (fun g => absurd g hi))]
                exact Ev.now _
            · simp only [if_pos q1, tt_neg q2, Bool.false_eq_true, if_false]
              exact Ev.now _
          · simp only [if_neg q1]
            exact Ev.now _)
        (by
          refine Ev_shift ?_
          simp only [spec_AreWires.l0, if_neg (show ¬ (w.length : Int) < w.length by omega)]
          exact Ev.now _) w.length 0 (by omega) (by omega) (fun j j0 j1 => by omega)
      refine Ev_eq this ?_
      rw [Bool.true_and]
      exact tt_iff ⟨fun g => ⟨h, c, fun i i0 i1 => g i i0 i1⟩, fun g i i0 i1 => g.2.2 i i0 i1⟩
    · simp only [tt_pos h, if_true, l01In_eq, Option.bind_some, decide_eq_false c, Bool.not_false]
      exact bad (fun g => c g.2.1)
  · simp only [tt_neg h, Bool.false_eq_true, if_false]
    exact bad (fun g => h g.1)
theorem impl_AreWires_ev (l : List S98) (hl : l.length ≤ 1000000) (n : Int) (w : List S103) (hn : w.length ≤ 1000000) : Ev (fun k => impl_AreWires.f k l n w) (tt (PWires l n w)) := by
  have hs := impl_AreModules_ev l (by omega)
  have bad : ¬ PWires l n w → Ev (fun k => impl_AreWires.j0 k l n w true) (tt (PWires l n w)) := fun h => by
    refine Ev_shift ?_
    simp only [impl_AreWires.j0, if_true]
    exact Ev_some (tt_neg h).symm
  unfold impl_AreWires.f
  refine Ev.bind hs ?_
  by_cases h : PMods l
  · by_cases c : 0 ≤ n ∧ n ≤ 20
    · simp only [tt_pos h, if_true, within_eq, Option.bind_some, decide_eq_true c, Bool.not_true]
      refine Ev_shift ?_
      simp only [impl_AreWires.j0, Bool.false_eq_true, if_false]
      have rt : ∀ (i j : Int), 0 ≤ j → j < i → i < w.length → rd_T103 (w.take i.toNat) j = rd_T103 w j := fun i j j0 j1 i1 => by
        show List.getD _ _ _ = List.getD _ _ _
        rw [List.getD_eq_getElem?_getD, List.getD_eq_getElem?_getD, List.getElem?_take, if_pos (by omega)]
      have look : ∀ i : Int, 0 ≤ i → i < w.length → (∀ j, 0 ≤ j → j < i → QW l n w j) → ∃ z, Ev (fun k => impl_cueAt.f k (w.take i.toNat) (rd_T103 w i).f1 (rd_T103 w i).f2) z ∧ (z ≥ 0 ↔ ¬ ∀ j : Int, 0 ≤ j → j < i → ¬ MW w (rd_T103 w i).f1 (rd_T103 w i).f2 j) := fun i h0 h1 hp => by
        have hlen : ((w.take i.toNat).length : Int) = i := by rw [List.length_take]; omega
        obtain ⟨z, ez, hz⟩ := impl_cueAt_ev (w.take i.toNat) (by rw [List.length_take]; omega) (rd_T103 w i).f1 (rd_T103 w i).f2
        refine ⟨z, ez, ?_⟩
        rw [hlen] at hz
        rcases hz with ⟨rfl, hz⟩ | ⟨q, q0, q1, qm, rfl⟩
        · refine ⟨fun g => by omega, fun g => absurd (fun j j0 j1 hm => hz j j0 j1 ?_) g⟩
          unfold MW at hm ⊢
          rw [rt i j j0 j1 h1]
          exact hm
        · unfold MW at qm
          rw [rt i q q0 q1 h1] at qm ⊢
          have := (hp q q0 q1).1
          exact ⟨fun _ g => g q q0 q1 qm, fun _ => by omega⟩
      have step : ∀ i a b c' , 0 ≤ i → i < (w.length : Int) → a = (rd_T103 w i).f0 → b = (rd_T103 w i).f1 → c' = (rd_T103 w i).f2 → (∀ j, 0 ≤ j → j < i → QW l n w j) → ∀ r, ((∀ j : Int, 0 ≤ j → j < i → ¬ MW w (rd_T103 w i).f1 (rd_T103 w i).f2 j) → Ev (fun k => impl_AreWires.l0 k l n w w w.length (i + 1)) r) → (¬ (∀ j : Int, 0 ≤ j → j < i → ¬ MW w (rd_T103 w i).f1 (rd_T103 w i).f2 j) → r = false) → Ev (fun k => impl_AreWires.j2 k l n w i w w.length i false a b c') r := fun i a b c' h0 h1 ea eb ec hp r hr hf => by
        subst ea eb ec
        obtain ⟨z, ez, hz⟩ := look i h0 h1 hp
        refine Ev_shift ?_
        simp only [impl_AreWires.j2, Bool.false_eq_true, if_false, if_pos h0, if_pos (show i ≤ (w.length : Int) by omega)]
        refine Ev.bind ez ?_
        by_cases g : z ≥ 0
        · simp only [if_pos g]
          exact Ev_some (hf (hz.1 g)).symm
        · simp only [if_neg g, w64 (n := i + 1) (by omega)]
          refine hr ?_
          by_cases y : ∀ j : Int, 0 ≤ j → j < i → ¬ MW w (rd_T103 w i).f1 (rd_T103 w i).f2 j
          · exact y
          · exact absurd (hz.2 y) g
      have no : ∀ i a b c', Ev (fun k => impl_AreWires.j2 k l n w i w w.length i true a b c') false := fun i a b c' => by
        refine Ev_shift ?_
        simp only [impl_AreWires.j2, if_true]
        exact Ev.now _
      have := ev_allI (L := fun i k => impl_AreWires.l0 k l n w w w.length i) (Q := QW l n w) (n := w.length) (fin := true)
        (fun i h0 h1 hp hq r hr => by
          have hc := hq.1
          refine Ev_shift ?_
          simp only [impl_AreWires.l0, if_pos h1, if_pos h0, w64 (n := n - 1) (by omega), within_eq, Option.bind_some, decide_eq_true_eq, if_pos hc, impl_pin_eq h, tt_pos hq.2.1, if_true]
          by_cases hi : i > 0
          · have := hq.2.2.1 hi
            simp only [if_pos hi, w64 (n := i - 1) (by omega), if_pos (show 0 ≤ i - 1 by omega), if_pos (show i - 1 < (w.length : Int) by omega), decide_eq_false (show ¬ (rd_T103 w (i - 1)).f0 ≥ (rd_T103 w i).f0 by omega)]
            exact step i _ _ _ h0 h1 rfl rfl rfl hp r (fun _ => hr) (fun g => absurd hq.2.2.2 g)
          · simp only [if_neg hi]
            exact step i _ _ _ h0 h1 rfl rfl rfl hp r (fun _ => hr) (fun g => absurd hq.2.2.2 g))
        (fun i h0 h1 hp hq => by
          refine Ev_shift ?_
          simp only [impl_AreWires.l0, if_pos h1, if_pos h0, w64 (n := n - 1) (by omega), within_eq, Option.bind_some, decide_eq_true_eq, impl_pin_eq h]
          by_cases q1 : 0 ≤ (rd_T103 w i).f0 ∧ (rd_T103 w i).f0 ≤ n - 1
          · by_cases q2 : PPin l (rd_T103 w i).f1 (rd_T103 w i).f2
            · simp only [if_pos q1, tt_pos q2, if_true]
              by_cases hi : i > 0
              · simp only [if_pos hi, w64 (n := i - 1) (by omega), if_pos (show 0 ≤ i - 1 by omega), if_pos (show i - 1 < (w.length : Int) by omega)]
                by_cases q3 : (rd_T103 w (i - 1)).f0 ≥ (rd_T103 w i).f0
                · simp only [decide_eq_true q3]
                  exact no i _ _ _
                · simp only [decide_eq_false q3]
                  exact step i _ _ _ h0 h1 rfl rfl rfl hp false (fun g => absurd ⟨q1, q2, fun _ => by omega, g⟩ hq) (fun _ => rfl)
              · simp only [if_neg hi]
                exact step i _ _ _ h0 h1 rfl rfl rfl hp false (fun g => absurd ⟨q1, q2, fun g2 => absurd g2 hi, g⟩ hq) (fun _ => rfl)
            · simp only [if_pos q1, tt_neg q2, Bool.false_eq_true, if_false]
              exact no i _ _ _
          · simp only [if_neg q1]
            exact no i _ _ _)
        (by
          refine Ev_shift ?_
          simp only [impl_AreWires.l0, if_neg (show ¬ (w.length : Int) < w.length by omega)]
          exact Ev.now _) w.length 0 (by omega) (by omega) (fun j j0 j1 => by omega)
      refine Ev_eq this ?_
      rw [Bool.true_and]
      exact tt_iff ⟨fun g => ⟨h, c, fun i i0 i1 => g i i0 i1⟩, fun g i i0 i1 => g.2.2 i i0 i1⟩
    · simp only [tt_pos h, if_true, within_eq, Option.bind_some, decide_eq_false c, Bool.not_false]
      exact bad (fun g => c g.2.1)
  · simp only [tt_neg h, Bool.false_eq_true, if_false]
    exact bad (fun g => h g.1)
theorem wcode_ev (l : List S98) (hl : l.length ≤ 1000000) (n : Int) (w : List S103) (hn : w.length ≤ 1000000) (m c : Int) : Ev (fun k => spec_l13Code.f k l n w m c) (if tt (PWires l n w) = true then (if (0 ≤ m ∧ m ≤ (l.length : Int) - 1) ∧ 0 ≤ c ∧ c ≤ max 0 (n - 1) then 0 else 2) else 1) := by
  unfold spec_l13Code.f
  refine Ev.bind (spec_AreWires_ev l hl n w hn) ?_
  by_cases h : PWires l n w
  · have h1 := h.2.1
    simp only [tt_pos h, if_true, w64 (n := (l.length : Int) - 1) (by omega), w64 (n := n - 1) (by omega), mx_eq, l01In_eq, Option.bind_some, decide_eq_true_eq]
    by_cases c1 : 0 ≤ m ∧ m ≤ (l.length : Int) - 1
    · by_cases c2 : 0 ≤ c ∧ c ≤ max 0 (n - 1)
      · simp only [if_pos c1, if_pos c2, if_pos (show (0 ≤ m ∧ m ≤ (l.length : Int) - 1) ∧ 0 ≤ c ∧ c ≤ max 0 (n - 1) from ⟨c1, c2⟩)]
        exact Ev.now _
      · simp only [if_pos c1, if_neg c2, if_neg (show ¬ ((0 ≤ m ∧ m ≤ (l.length : Int) - 1) ∧ 0 ≤ c ∧ c ≤ max 0 (n - 1)) from fun g => c2 g.2)]
        exact Ev.now _
    · simp only [if_neg c1, if_neg (show ¬ ((0 ≤ m ∧ m ≤ (l.length : Int) - 1) ∧ 0 ≤ c ∧ c ≤ max 0 (n - 1)) from fun g => c1 g.1)]
      exact Ev.now _
  · simp only [tt_neg h, Bool.false_eq_true, if_false]
    exact Ev.now _
/-- The index of the wire of a cue, from the index i on, or -1. -/
def findW (c : Int) : List S103 → Int → Int
  | [], _ => -1
  | a :: s, i => if a.f0 = c then i else findW c s (i + 1)
theorem findW_cases (c : Int) : ∀ (s : List S103) (i : Int), (findW c s i = -1 ∧ ∀ a ∈ s, ¬ a.f0 = c) ∨ ∃ p a t, s = p ++ a :: t ∧ a.f0 = c ∧ (∀ b ∈ p, ¬ b.f0 = c) ∧ findW c s i = i + (p.length : Int)
  | [], i => .inl ⟨rfl, by simp⟩
  | a :: s, i => by
    unfold findW
    by_cases h : a.f0 = c
    · rw [if_pos h]
      exact .inr ⟨[], a, s, rfl, h, by simp, by simp⟩
    · rw [if_neg h]
      rcases findW_cases c s (i + 1) with ⟨e, hn⟩ | ⟨p, b, t, rfl, hb, hp, e⟩
      · refine .inl ⟨e, fun x hx => ?_⟩
        rcases List.mem_cons.1 hx with rfl | hx
        · exact h
        · exact hn x hx
      · refine .inr ⟨a :: p, b, t, rfl, hb, fun x hx => ?_, by rw [e]; simp; omega⟩
        rcases List.mem_cons.1 hx with rfl | hx
        · exact h
        · exact hp x hx
/-- Wires in the order of their cues, with one more at its place. -/
def insW (x : S103) : List S103 → List S103
  | [] => [x]
  | a :: s => if a.f0 < x.f0 then a :: insW x s else x :: a :: s
theorem insW_length (x : S103) : ∀ s : List S103, (insW x s).length = s.length + 1
  | [] => rfl
  | a :: s => by
    unfold insW
    split
    · rw [List.length_cons, List.length_cons, insW_length x s]
    · rfl
theorem insW_mem (x : S103) : ∀ (s : List S103) (y : S103), y ∈ insW x s ↔ y = x ∨ y ∈ s
  | [], y => by simp [insW]
  | a :: s, y => by
    unfold insW
    split
    · rw [List.mem_cons, insW_mem x s y, List.mem_cons]
      exact ⟨fun h => by rcases h with h | h | h <;> simp [h], fun h => by rcases h with h | h | h <;> simp [h]⟩
    · simp
theorem insW_last (x a : S103) (ha : ¬ a.f0 < x.f0) : ∀ p : List S103, insW x (p ++ [a]) = insW x p ++ [a]
  | [] => by simp [insW, ha]
  | b :: p => by
    simp only [List.cons_append, insW]
    split
    · rw [insW_last x a ha p, List.cons_append]
    · simp
theorem insW_all (x : S103) : ∀ p : List S103, (∀ b ∈ p, b.f0 < x.f0) → insW x p = p ++ [x]
  | [], _ => rfl
  | b :: p, h => by
    simp only [List.cons_append, insW, if_pos (h b (by simp)), insW_all x p (fun c hc => h c (by simp [hc]))]
/-- Cues in order. -/
def AscW : List S103 → Prop := List.Pairwise (fun a b => a.f0 < b.f0)
theorem AscW_ins (x : S103) : ∀ s : List S103, AscW s → (∀ b ∈ s, ¬ b.f0 = x.f0) → AscW (insW x s)
  | [], _, _ => by simp [insW, AscW]
  | a :: s, h, hn => by
    unfold AscW at h ⊢
    rw [List.pairwise_cons] at h
    unfold insW
    by_cases c : a.f0 < x.f0
    · rw [if_pos c, List.pairwise_cons]
      refine ⟨fun y hy => ?_, AscW_ins x s h.2 (fun b hb => hn b (by simp [hb]))⟩
      rcases (insW_mem x s y).1 hy with rfl | hy
      · exact c
      · exact h.1 y hy
    · have hx : x.f0 < a.f0 := by have := hn a (by simp); omega
      rw [if_neg c, List.pairwise_cons]
      refine ⟨fun y hy => ?_, List.pairwise_cons.2 h⟩
      rcases List.mem_cons.1 hy with rfl | hy
      · exact hx
      · have := h.1 y hy
        omega
theorem AscW_of {l : List S98} {n : Int} {w : List S103} (h : PWires l n w) : AscW w := by
  have step : ∀ d i : Nat, i + d + 1 < w.length → (rd_T103 w (i : Int)).f0 < (rd_T103 w ((i + d + 1 : Nat) : Int)).f0 := fun d => by
    induction d with
    | zero =>
      intro i hi
      have := (h.2.2 ((i + 0 + 1 : Nat) : Int) (by omega) (by omega)).2.2.1 (by omega)
      rw [show (((i + 0 + 1 : Nat) : Int) - 1) = (i : Int) by omega] at this
      exact this
    | succ d ih =>
      intro i hi
      have h1 := ih i (by omega)
      have := (h.2.2 ((i + (d + 1) + 1 : Nat) : Int) (by omega) (by omega)).2.2.1 (by omega)
      rw [show (((i + (d + 1) + 1 : Nat) : Int) - 1) = ((i + d + 1 : Nat) : Int) by omega] at this
      omega
  have e : ∀ (i : Nat) (hi : i < w.length), rd_T103 w (i : Int) = w[i] := fun i hi => by
    show w.getD _ _ = _
    rw [Int.toNat_natCast, List.getD_eq_getElem?_getD, List.getElem?_eq_getElem hi]
    rfl
  refine List.pairwise_iff_getElem.2 fun i j hi hj hij => ?_
  have := step (j - i - 1) i (by omega)
  rw [show i + (j - i - 1) + 1 = j by omega, e i hi, e j hj] at this
  exact this
/-- The free pins of a module. -/
noncomputable def freeP (w : List S103) (m p : Int) : Bool := tt (∀ j : Int, 0 ≤ j → j < w.length → ¬ MW w m p j)
noncomputable def freeF (l : List S98) (w : List S103) (m : Int) : List Int := idxF (freeP w m) ((rd_T98 l m).f1).toNat 0
theorem spec_free {l : List S98} (h : PMods l) (w : List S103) (hw : w.length ≤ 2000000) {m : Int} (h0 : 0 ≤ m) (h1 : m < l.length) : Ev (fun k => spec_l13Free.f k l w m) (freeF l w m) := by
  have hp := h.2.2 m h0 h1
  unfold PM at hp
  unfold spec_l13Free.f
  have := ev_filter (L := fun i out k => spec_l13Free.l0 k l w m out i) (p := freeP w m) (n := (rd_T98 l m).f1) (fin := fun out => out)
    (fun i out i0 i1 i2 hq r hr => by
      obtain ⟨z, ez, hz⟩ := spec_l13At_ev w (by omega) m i
      refine Ev_shift ?_
      simp only [spec_l13Free.l0, if_pos h0, if_pos h1, if_pos i1]
      refine Ev.bind ez ?_
      have hz0 : z < 0 := by
        rcases hz with ⟨rfl, _⟩ | ⟨z0, z1, zm, _⟩
        · omega
        · exact absurd zm ((tt_eq_true.1 hq) z z0 z1)
      simp only [if_pos hz0, if_pos (show out.length < 17592186044416 by omega), w64 (n := i + 1) (by omega)]
      exact hr)
    (fun i out i0 i1 i2 hq r hr => by
      obtain ⟨z, ez, hz⟩ := spec_l13At_ev w (by omega) m i
      refine Ev_shift ?_
      simp only [spec_l13Free.l0, if_pos h0, if_pos h1, if_pos i1]
      refine Ev.bind ez ?_
      have hz0 : ¬ z < 0 := by
        rcases hz with ⟨_, hn⟩ | ⟨z0, _⟩
        · have := tt_eq_true.2 hn
          unfold freeP at hq
          rw [this] at hq
          cases hq
        · omega
      simp only [if_neg hz0, w64 (n := i + 1) (by omega)]
      exact hr)
    (fun out h2 => by
      refine Ev_shift ?_
      simp only [spec_l13Free.l0, if_pos h0, if_pos h1, if_neg (show ¬ (rd_T98 l m).f1 < (rd_T98 l m).f1 by omega)]
      exact Ev.now _) ((rd_T98 l m).f1).toNat 0 [] (by omega) (by omega) (by simp)
  exact this
theorem impl_free {l : List S98} (h : PMods l) (w : List S103) (hw : w.length ≤ 2000000) (hc : ∀ x ∈ w, 0 ≤ x.f0) {m : Int} (h0 : 0 ≤ m) (h1 : m < l.length) : Ev (fun k => impl_freePins.f k l w m) (freeF l w m) := by
  have hp := h.2.2 m h0 h1
  unfold PM at hp
  unfold impl_freePins.f
  have e : ∀ i : Int, 0 ≤ i → i < w.length → 0 ≤ (rd_T103 w i).f0 := fun i i0 i1 => by
    have hlt : i.toNat < w.length := by omega
    have e : rd_T103 w i = w[i.toNat] := by
      show w.getD i.toNat _ = _
      rw [List.getD_eq_getElem?_getD, List.getElem?_eq_getElem hlt]
      rfl
    rw [e]
    exact hc _ (List.getElem_mem hlt)
  have := ev_filter (L := fun i out k => impl_freePins.l0 k l w m out i) (p := freeP w m) (n := (rd_T98 l m).f1) (fin := fun out => out)
    (fun i out i0 i1 i2 hq r hr => by
      obtain ⟨z, ez, hz⟩ := impl_cueAt_ev w (by omega) m i
      refine Ev_shift ?_
      simp only [impl_freePins.l0, if_pos h0, if_pos h1, if_pos i1]
      refine Ev.bind ez ?_
      have hz0 : z < 0 := by
        rcases hz with ⟨rfl, _⟩ | ⟨q, q0, q1, qm, _⟩
        · omega
        · exact absurd qm ((tt_eq_true.1 hq) q q0 q1)
      simp only [if_pos hz0, if_pos (show out.length < 17592186044416 by omega), w64 (n := i + 1) (by omega)]
      exact hr)
    (fun i out i0 i1 i2 hq r hr => by
      obtain ⟨z, ez, hz⟩ := impl_cueAt_ev w (by omega) m i
      refine Ev_shift ?_
      simp only [impl_freePins.l0, if_pos h0, if_pos h1, if_pos i1]
      refine Ev.bind ez ?_
      have hz0 : ¬ z < 0 := by
        rcases hz with ⟨_, hn⟩ | ⟨q, q0, q1, _, rfl⟩
        · have := tt_eq_true.2 hn
          unfold freeP at hq
          rw [this] at hq
          cases hq
        · have := e q q0 q1
          omega
      simp only [if_neg hz0, w64 (n := i + 1) (by omega)]
      exact hr)
    (fun out h2 => by
      refine Ev_shift ?_
      simp only [impl_freePins.l0, if_pos h0, if_pos h1, if_neg (show ¬ (rd_T98 l m).f1 < (rd_T98 l m).f1 by omega)]
      exact Ev.now _) ((rd_T98 l m).f1).toNat 0 [] (by omega) (by omega) (by simp)
  exact this
theorem wcues {l : List S98} {n : Int} {w : List S103} (h : PWires l n w) : ∀ x ∈ w, 0 ≤ x.f0 ∧ x.f0 ≤ n - 1 := by
  intro x hx
  obtain ⟨i, hi, rfl⟩ := List.mem_iff_getElem.1 hx
  have := (h.2.2 (i : Int) (by omega) (by omega)).1
  have e : rd_T103 w (i : Int) = w[i] := by
    show w.getD _ _ = _
    rw [Int.toNat_natCast, List.getD_eq_getElem?_getD, List.getElem?_eq_getElem hi]
    rfl
  rw [e] at this
  exact this
theorem spec_find_l0 (l : List S103) (hn : l.length ≤ 1000000) (c : Int) : ∀ (s : List S103) (i : Int), 0 ≤ i → l.drop i.toNat = s → Ev (fun k => spec_l13Find.l0 k l c i) (findW c s i)
  | [], i, h0, h => by
    refine Ev_shift ?_
    simp only [spec_l13Find.l0, if_neg (drop_nil h0 h)]
    exact Ev.now _
  | a :: s, i, h0, h => by
    refine Ev_shift ?_
    obtain ⟨h1, h2, h3⟩ := drop_cons z103 h0 h
    have h2' : rd_T103 l i = a := h2
    unfold findW
    by_cases g : a.f0 = c
    · simp only [spec_l13Find.l0, if_pos h1, if_pos h0, h2', if_pos g]
      exact Ev.now _
    · simp only [spec_l13Find.l0, if_pos h1, if_pos h0, h2', if_neg g, w64 (n := i + 1) (by omega)]
      exact spec_find_l0 l hn c s (i + 1) (by omega) h3
theorem spec_find (l : List S103) (hn : l.length ≤ 1000000) (c : Int) : Ev (fun k => spec_l13Find.f k l c) (findW c l 0) := by
  unfold spec_l13Find.f
  exact spec_find_l0 l hn c l 0 (by omega) rfl
theorem impl_find_l0 (l : List S103) (hn : l.length ≤ 1000000) (c : Int) : ∀ (s : List S103) (i : Int), 0 ≤ i → l.drop i.toNat = s → Ev (fun k => impl_wireOf.l0 k c l l.length i) (findW c s i)
  | [], i, h0, h => by
    refine Ev_shift ?_
    simp only [impl_wireOf.l0, if_neg (drop_nil h0 h)]
    exact Ev.now _
  | a :: s, i, h0, h => by
    refine Ev_shift ?_
    obtain ⟨h1, h2, h3⟩ := drop_cons z103 h0 h
    have h2' : rd_T103 l i = a := h2
    unfold findW
    by_cases g : a.f0 = c
    · simp only [impl_wireOf.l0, if_pos h1, if_pos h0, h2', if_pos g]
      exact Ev.now _
    · simp only [impl_wireOf.l0, if_pos h1, if_pos h0, h2', if_neg g, w64 (n := i + 1) (by omega)]
      exact impl_find_l0 l hn c s (i + 1) (by omega) h3
theorem impl_find (l : List S103) (hn : l.length ≤ 1000000) (c : Int) : Ev (fun k => impl_wireOf.f k l c) (findW c l 0) := by
  unfold impl_wireOf.f
  exact impl_find_l0 l hn c l 0 (by omega) rfl
/-- The loose cues. -/
def looseF (n : Int) (w : List S103) : List Int := idxF (fun c => decide (findW c w 0 < 0)) n.toNat 0
theorem spec_loose (w : List S103) (hw : w.length ≤ 1000000) {n : Int} (hn : 0 ≤ n ∧ n ≤ 20) : Ev (fun k => spec_l13Loose.f k n w) (looseF n w) := by
  unfold spec_l13Loose.f
  have := ev_filter (L := fun i out k => spec_l13Loose.l0 k n w out i) (p := fun c => decide (findW c w 0 < 0)) (n := n) (fin := fun out => out)
    (fun i out i0 i1 i2 hq r hr => by
      refine Ev_shift ?_
      simp only [spec_l13Loose.l0, if_pos i1]
      refine Ev.bind (spec_find w hw i) ?_
      simp only [if_pos (of_decide_eq_true hq), if_pos (show out.length < 17592186044416 by omega), w64 (n := i + 1) (by omega)]
      exact hr)
    (fun i out i0 i1 i2 hq r hr => by
      refine Ev_shift ?_
      simp only [spec_l13Loose.l0, if_pos i1]
      refine Ev.bind (spec_find w hw i) ?_
      simp only [if_neg (of_decide_eq_false hq), w64 (n := i + 1) (by omega)]
      exact hr)
    (fun out h2 => by
      refine Ev_shift ?_
      simp only [spec_l13Loose.l0, if_neg (show ¬ n < n by omega)]
      exact Ev.now _) n.toNat 0 [] (by omega) (by omega) (by simp)
  exact this
theorem impl_loose (w : List S103) (hw : w.length ≤ 1000000) {n : Int} (hn : 0 ≤ n ∧ n ≤ 20) : Ev (fun k => impl_looseCues.f k n w) (looseF n w) := by
  unfold impl_looseCues.f
  have := ev_filter (L := fun i out k => impl_looseCues.l0 k n w out i) (p := fun c => decide (findW c w 0 < 0)) (n := n) (fin := fun out => out)
    (fun i out i0 i1 i2 hq r hr => by
      refine Ev_shift ?_
      simp only [impl_looseCues.l0, if_pos i1]
      refine Ev.bind (impl_find w hw i) ?_
      simp only [if_pos (of_decide_eq_true hq), if_pos (show out.length < 17592186044416 by omega), w64 (n := i + 1) (by omega)]
      exact hr)
    (fun i out i0 i1 i2 hq r hr => by
      refine Ev_shift ?_
      simp only [impl_looseCues.l0, if_pos i1]
      refine Ev.bind (impl_find w hw i) ?_
      simp only [if_neg (of_decide_eq_false hq), w64 (n := i + 1) (by omega)]
      exact hr)
    (fun out h2 => by
      refine Ev_shift ?_
      simp only [impl_looseCues.l0, if_neg (show ¬ n < n by omega)]
      exact Ev.now _) n.toNat 0 [] (by omega) (by omega) (by simp)
  exact this
/-- The wires with one for a loose cue, at the first free pin of d modules from m on. -/
noncomputable def joinF (l : List S98) (w : List S103) (c : Int) : Nat → Int → List S103 × Bool
  | 0, _ => ([], false)
  | d + 1, m => if ((freeF l w m).length : Int) = 0 then joinF l w c d (m + 1) else (insW (⟨c, m, rd (freeF l w m) 0⟩ : S103) w, true)
theorem joinF_length (l : List S98) (w : List S103) (c : Int) : ∀ (d : Nat) (m : Int), (joinF l w c d m).1.length ≤ w.length + 1
  | 0, m => by simp [joinF]
  | d + 1, m => by
    unfold joinF
    split
    · exact joinF_length l w c d (m + 1)
    · rw [insW_length]
      exact Nat.le_refl _
theorem joinF_mem (l : List S98) (w : List S103) (c : Int) : ∀ (d : Nat) (m : Int), (joinF l w c d m).2 = true → ∃ x : S103, x.f0 = c ∧ m ≤ x.f1 ∧ x.f1 < m + d ∧ ((freeF l w x.f1).length : Int) ≠ 0 ∧ x.f2 = rd (freeF l w x.f1) 0 ∧ (joinF l w c d m).1 = insW x w
  | 0, m, h => by cases h
  | d + 1, m, h => by
    unfold joinF at h ⊢
    by_cases g : ((freeF l w m).length : Int) = 0
    · rw [if_pos g] at h ⊢
      obtain ⟨x, h1, h2, h3, h4⟩ := joinF_mem l w c d (m + 1) h
      exact ⟨x, h1, by omega, by omega, h4⟩
    · rw [if_neg g]
      exact ⟨_, rfl, Int.le_refl _, by show m < _; omega, g, rfl, rfl⟩
theorem spec_with_l0 (x : S103) : ∀ (s p : List S103), p.length + s.length ≤ 2000000 → Ev (fun k => spec_l13With.l0 k (p ++ s) (p.length : Int) x.f0 x.f1 x.f2) (p ++ insW x s)
  | [], p, h => by
    refine Ev_shift ?_
    simp only [List.append_nil, List.length_nil, Nat.add_zero] at h ⊢
    simp only [spec_l13With.l0, if_neg (show ¬ (p.length : Int) < p.length by omega), if_pos (show 0 ≤ (p.length : Int) by omega), if_pos (show (p.length : Int) ≤ p.length by omega), Option.bind_some, List.nil_append, List.length_nil, Int.toNat_natCast, List.take_length, List.drop_length, Nat.zero_add, if_pos (show p.length < 5864062014805 by omega), List.length_singleton, if_pos (show p.length + 1 < 5864062014805 by omega), List.length_append, Nat.add_zero, List.append_nil]
    exact Ev.now _
  | a :: s, p, h => by
    refine Ev_shift ?_
    have hg : rd_T103 (p ++ a :: s) (p.length : Int) = a := getD_at_mid _ p a s
    have hlen : (p ++ a :: s).length = p.length + (s.length + 1) := by simp
    simp only [List.length_cons] at h
    unfold insW
    by_cases g : a.f0 < x.f0
    · simp only [spec_l13With.l0, if_pos (show (p.length : Int) < ((p ++ a :: s).length : Int) by omega), if_pos (show 0 ≤ (p.length : Int) by omega), hg, if_pos g, w64 (n := (p.length : Int) + 1) (by omega)]
      have := spec_with_l0 x s (p ++ [a]) (by simp; omega)
      simpa using this
    · have ht : (p ++ a :: s).take p.length = p := by simp
      have hd : (p ++ a :: s).drop p.length = a :: s := by simp
      simp only [spec_l13With.l0, if_pos (show (p.length : Int) < ((p ++ a :: s).length : Int) by omega), if_pos (show 0 ≤ (p.length : Int) by omega), hg, if_neg g, if_pos (show (p.length : Int) ≤ ((p ++ a :: s).length : Int) by omega), if_pos (show (p.length : Int) < ((p.length + (s.length + 1) : Nat) : Int) by omega), if_pos (show (p.length : Int) ≤ ((p.length + (s.length + 1) : Nat) : Int) by omega), Option.bind_some, List.nil_append, List.length_nil, Int.toNat_natCast, ht, hd, Nat.zero_add, if_pos (show p.length < 5864062014805 by omega), List.length_singleton, if_pos (show p.length + 1 < 5864062014805 by omega), List.length_append, List.length_cons, if_pos (show p.length + 1 + (s.length + 1) < 5864062014805 by omega)]
      first | exact Ev.now _ | exact Ev_some (by simp)
theorem spec_with (w : List S103) (hw : w.length ≤ 2000000) (x : S103) : Ev (fun k => spec_l13With.f k w x.f0 x.f1 x.f2) (insW x w) := by
  unfold spec_l13With.f
  exact spec_with_l0 x w [] (by simp; omega)
theorem spec_join_l0 {l : List S98} (h : PMods l) (w : List S103) (hw : w.length ≤ 2000000) (c : Int) : ∀ (d : Nat) (m : Int), 0 ≤ m → m + d = l.length → Ev (fun k => spec_l13Join.l0 k l w c m) (joinF l w c d m)
  | 0, m, h0, hd => by
    refine Ev_shift ?_
    simp only [spec_l13Join.l0, if_neg (show ¬ m < (l.length : Int) by omega), joinF]
    exact Ev.now _
  | d + 1, m, h0, hd => by
    have hl := h.2.1
    refine Ev_shift ?_
    simp only [spec_l13Join.l0, if_pos (show m < (l.length : Int) by omega)]
    refine Ev.bind (spec_free h w hw h0 (by omega)) ?_
    unfold joinF
    by_cases g : ((freeF l w m).length : Int) = 0
    · simp only [if_pos g, if_neg (show ¬ ((freeF l w m).length : Int) > 0 by omega), w64 (n := m + 1) (by omega)]
      exact spec_join_l0 h w hw c d (m + 1) (by omega) (by omega)
    · simp only [if_neg g, if_pos (show ((freeF l w m).length : Int) > 0 by omega), if_pos (show 0 < ((freeF l w m).length : Int) by omega)]
      exact Ev.bind (spec_with w hw (⟨c, m, rd (freeF l w m) 0⟩ : S103)) (Ev.now _)
theorem spec_join {l : List S98} (h : PMods l) (w : List S103) (hw : w.length ≤ 2000000) (c : Int) : Ev (fun k => spec_l13Join.f k l w c) (joinF l w c l.length 0) := by
  unfold spec_l13Join.f
  exact spec_join_l0 h w hw c l.length 0 (by omega) (by omega)
theorem put_l1 (x : S103) : ∀ (n : Nat) (p s : List S103), p.length = n → p.length + s.length ≤ 2000000 → AscW p → (∀ b ∈ p, ¬ b.f0 = x.f0) → Ev (fun k => impl_putWire.l1 k (p ++ x :: s) (p.length : Int)) (insW x p ++ s, true)
  | 0, p, s, hn, hl, ha, hx => by
    have e : p = [] := List.length_eq_zero_iff.1 hn
    subst e
    refine Ev_shift ?_
    simp only [impl_putWire.l1, List.length_nil, if_neg (show ¬ ((0 : Nat) : Int) > 0 by decide), insW]
    exact Ev.now _
  | n + 1, p, s, hn, hl, ha, hx => by
    obtain ⟨p', a, rfl⟩ : ∃ p' a, p = p' ++ [a] := by
      have hne : p ≠ [] := by
        intro e
        rw [e] at hn
        simp at hn
      exact ⟨p.dropLast, p.getLast hne, (List.dropLast_concat_getLast hne).symm⟩
    simp only [List.length_append, List.length_singleton] at hn hl ⊢
    have ha' : AscW p' := (List.pairwise_append.1 ha).1
    have hlt : ∀ b ∈ p', b.f0 < a.f0 := fun b hb => (List.pairwise_append.1 ha).2.2 b hb a (by simp)
    have e1 : (p' ++ [a]) ++ x :: s = p' ++ a :: (x :: s) := by simp
    have r1 : rd_T103 (p' ++ a :: (x :: s)) (p'.length : Int) = a := getD_at_mid _ p' a (x :: s)
    have r2 : rd_T103 (p' ++ a :: (x :: s)) ((p'.length + 1 : Nat) : Int) = x := by
      rw [← e1, show ((p'.length + 1 : Nat) : Int) = (((p' ++ [a]).length : Nat) : Int) by simp]
      exact getD_at_mid _ (p' ++ [a]) x s
    have hlen : ((p' ++ a :: (x :: s)).length : Int) = (p'.length : Int) + 2 + s.length := by simp; omega
    rw [e1]
    refine Ev_shift ?_
    have ek : ((p'.length + 1 : Nat) : Int) - 1 = (p'.length : Int) := by omega
    simp only [impl_putWire.l1, if_pos (show ((p'.length + 1 : Nat) : Int) > 0 by omega), ek, w64 (n := (p'.length : Int)) (by omega), if_pos (show 0 ≤ (p'.length : Int) by omega), if_pos (show (p'.length : Int) < ((p' ++ a :: (x :: s)).length : Int) by omega), if_pos (show 0 ≤ ((p'.length + 1 : Nat) : Int) by omega), if_pos (show ((p'.length + 1 : Nat) : Int) < ((p' ++ a :: (x :: s)).length : Int) by omega), r1, r2]
    have hax := hx a (by simp)
    by_cases g : a.f0 > x.f0
    · simp only [if_pos g]
      rw [insW_last x a (by omega) p']
      have s1 : (p' ++ a :: (x :: s)).set ((p'.length : Int)).toNat (⟨x.f0, x.f1, x.f2⟩ : S103) = (p' ++ [x]) ++ x :: s := by
        rw [set_at_mid]
        simp
      have s2 : ((p' ++ [x]) ++ x :: s).set (((p'.length + 1 : Nat) : Int)).toNat (⟨a.f0, a.f1, a.f2⟩ : S103) = p' ++ x :: (a :: s) := by
        rw [show ((p'.length + 1 : Nat) : Int) = (((p' ++ [x]).length : Nat) : Int) by simp, set_at_mid]
        simp
      rw [s1, s2]
      have := put_l1 x n p' (a :: s) (by omega) (by simp; omega) ha' (fun b hb => hx b (by simp [hb]))
      simpa using this
    · simp only [if_neg g]
      rw [insW_all x (p' ++ [a]) (fun b hb => by
        rcases List.mem_append.1 hb with hb | hb
        · have := hlt b hb
          omega
        · rw [List.mem_singleton.1 hb]
          omega)]
      exact Ev_some (by simp)
theorem put_l0 {l : List S98} (h : PMods l) (w : List S103) (hw : w.length ≤ 2000000) (hc : ∀ x ∈ w, 0 ≤ x.f0) (ha : AscW w) (c : Int) (hx : ∀ b ∈ w, ¬ b.f0 = c) : ∀ (d : Nat) (m : Int), 0 ≤ m → m + d = l.length → Ev (fun k => impl_putWire.l0 k l w c l.length m) (joinF l w c d m)
  | 0, m, h0, hd => by
    refine Ev_shift ?_
    simp only [impl_putWire.l0, if_neg (show ¬ m < (l.length : Int) by omega), joinF]
    exact Ev.now _
  | d + 1, m, h0, hd => by
    have hl := h.2.1
    refine Ev_shift ?_
    simp only [impl_putWire.l0, if_pos (show m < (l.length : Int) by omega)]
    refine Ev.bind (impl_free h w hw hc h0 (by omega)) ?_
    unfold joinF
    by_cases g : ((freeF l w m).length : Int) = 0
    · simp only [if_pos g, w64 (n := m + 1) (by omega)]
      exact put_l0 h w hw hc ha c hx d (m + 1) (by omega) (by omega)
    · simp only [if_neg g, Option.bind_some, List.nil_append, List.length_nil, Nat.zero_add, if_pos (show w.length < 5864062014805 by omega), if_pos (show 0 < ((freeF l w m).length : Int) by omega), List.length_singleton, if_pos (show w.length + 1 < 5864062014805 by omega), List.length_append]
      have e : wrap64 (((w.length + 1 : Nat) : Int) - 1) = (w.length : Int) := by rw [w64 (by omega)]; omega
      rw [e]
      have := put_l1 (⟨c, m, rd (freeF l w m) 0⟩ : S103) w.length w [] rfl (by simp; omega) ha hx
      simpa using this
theorem impl_put {l : List S98} (h : PMods l) (w : List S103) (hw : w.length ≤ 2000000) (hc : ∀ x ∈ w, 0 ≤ x.f0) (ha : AscW w) (c : Int) (hx : ∀ b ∈ w, ¬ b.f0 = c) : Ev (fun k => impl_putWire.f k l w c) (joinF l w c l.length 0) := by
  unfold impl_putWire.f
  exact put_l0 h w hw hc ha c hx l.length 0 (by omega) (by omega)
theorem findW_neg {w : List S103} {c : Int} (h : findW c w 0 < 0) : ∀ b ∈ w, ¬ b.f0 = c := by
  rcases findW_cases c w 0 with ⟨_, hn⟩ | ⟨p, a, t, e, ha, hp, hf⟩
  · exact hn
  · omega
/-- The wires with one for each of some cues. -/
noncomputable def allF (l : List S98) : List Int → List S103 → List S103 × Int
  | [], w => (w, 0)
  | c :: s, w => if (joinF l w c l.length 0).2 = true then allF l s (joinF l w c l.length 0).1 else ([], 4)
theorem spec_all_l0 {l : List S98} (h : PMods l) (cs : List Int) (hcs : cs.length ≤ 1000) : ∀ (s : List Int) (i : Int) (w : List S103), 0 ≤ i → cs.drop i.toNat = s → w.length + s.length ≤ 2000000 → Ev (fun k => spec_WireAll.l0 k l w cs i) (allF l s w)
  | [], i, w, h0, hs, hw => by
    refine Ev_shift ?_
    simp only [spec_WireAll.l0, if_neg (drop_nil h0 hs), allF]
    exact Ev.now _
  | c :: s, i, w, h0, hs, hw => by
    refine Ev_shift ?_
    obtain ⟨h1, h2, h3⟩ := drop_cons 0 h0 hs
    have h2' : rd cs i = c := h2
    simp only [List.length_cons] at hw
    have hlen := joinF_length l w c l.length 0
    simp only [spec_WireAll.l0, if_pos h1, if_pos h0, h2']
    refine Ev.bind (spec_join h w (by omega) c) ?_
    unfold allF
    by_cases b : (joinF l w c l.length 0).2 = true
    · simp only [if_pos b, w64 (n := i + 1) (by omega)]
      exact spec_all_l0 h cs hcs s (i + 1) _ (by omega) h3 (by omega)
    · simp only [if_neg b]
      exact Ev.now _
theorem impl_all_l0 {l : List S98} (h : PMods l) (cs : List Int) (hcs : cs.length ≤ 1000) : ∀ (s : List Int) (i : Int) (w : List S103), 0 ≤ i → cs.drop i.toNat = s → w.length + s.length ≤ 2000000 → (∀ x ∈ w, 0 ≤ x.f0) → AscW w → s.Nodup → (∀ c ∈ s, 0 ≤ c ∧ ∀ b ∈ w, ¬ b.f0 = c) → Ev (fun k => impl_WireAll.l0 k l w cs cs.length i) (allF l s w)
  | [], i, w, h0, hs, hw, w0, ha, hn, hx => by
    refine Ev_shift ?_
    simp only [impl_WireAll.l0, if_neg (drop_nil h0 hs), allF]
    exact Ev.now _
  | c :: s, i, w, h0, hs, hw, w0, ha, hn, hx => by
    refine Ev_shift ?_
    obtain ⟨h1, h2, h3⟩ := drop_cons 0 h0 hs
    have h2' : rd cs i = c := h2
    simp only [List.length_cons] at hw
    rw [List.nodup_cons] at hn
    have hlen := joinF_length l w c l.length 0
    have hxc := hx c (by simp)
    simp only [impl_WireAll.l0, if_pos h1, if_pos h0, h2']
    refine Ev.bind (impl_put h w (by omega) w0 ha c hxc.2) ?_
    unfold allF
    by_cases b : (joinF l w c l.length 0).2 = true
    · simp only [if_pos b, w64 (n := i + 1) (by omega)]
      obtain ⟨x, x0, _, _, _, _, e⟩ := joinF_mem l w c l.length 0 b
      refine impl_all_l0 h cs hcs s (i + 1) _ (by omega) h3 (by omega) ?_ ?_ hn.2 ?_
      · rw [e]
        intro y hy
        rcases (insW_mem x w y).1 hy with rfl | hy
        · omega
        · exact w0 y hy
      · rw [e]
        exact AscW_ins x w ha (fun b hb => by rw [x0]; exact hxc.2 b hb)
      · intro d hd
        refine ⟨(hx d (by simp [hd])).1, ?_⟩
        rw [e]
        intro y hy
        rcases (insW_mem x w y).1 hy with rfl | hy
        · intro e2
          rw [x0] at e2
          rw [e2] at hn
          exact hn.1 hd
        · exact (hx d (by simp [hd])).2 y hy
    · simp only [if_neg b]
      exact Ev.now _
theorem idxF_nodup2 (p : Int → Bool) : ∀ (d : Nat) (i : Int), (idxF p d i).Nodup
  | 0, i => List.nodup_nil
  | d + 1, i => by
    unfold idxF
    split
    · rw [List.nodup_cons]
      refine ⟨fun g => ?_, idxF_nodup2 p d (i + 1)⟩
      have := (idxF_mem p d (i + 1) i).1 g
      omega
    · exact idxF_nodup2 p d (i + 1)
theorem allF_length (l : List S98) : ∀ (s : List Int) (w : List S103), (allF l s w).1.length ≤ w.length + s.length
  | [], w => by simp [allF]
  | c :: s, w => by
    unfold allF
    have h1 := joinF_length l w c l.length 0
    split
    · have := allF_length l s (joinF l w c l.length 0).1
      simp only [List.length_cons]
      omega
    · simp
theorem wireall_ev (l : List S98) (hl : l.length ≤ 1000000) (n : Int) (w : List S103) (hn : w.length ≤ 1000000) : ∃ q : List S103 × Int, Ev (fun k => spec_WireAll.f k l n w) q ∧ Ev (fun k => impl_WireAll.f k l n w) q ∧ q.1.length ≤ 2000000 ∧ (q.2 = 0 → PWires l n w ∧ allF l (looseF n w) w = q) := by
  have hs := wcode_ev l hl n w (by omega) 0 0
  have hi := impl_AreWires_ev l hl n w (by omega)
  by_cases h : PWires l n w
  · have h1 := h.2.1
    have hm := h.1
    have hl1 := hm.1
    rw [tt_pos h] at hi
    rw [tt_pos h, if_pos rfl, if_pos ⟨⟨Int.le_refl _, by omega⟩, Int.le_refl _, by omega⟩] at hs
    have hlen := idxF_length (fun c => decide (findW c w 0 < 0)) n.toNat 0
    have hll : (looseF n w).length ≤ 20 := by show List.length (idxF _ _ _) ≤ _; omega
    have hal := allF_length l (looseF n w) w
    refine ⟨allF l (looseF n w) w, ?_, ?_, by omega, fun _ => ⟨h, rfl⟩⟩
    · unfold spec_WireAll.f
      refine Ev.bind hs ?_
      simp only [if_true, Option.bind_some, List.nil_append, List.length_nil, if_pos (show 0 + w.length < 5864062014805 by omega)]
      refine Ev.bind (spec_loose w (by omega) h1) ?_
      exact spec_all_l0 hm (looseF n w) (by omega) (looseF n w) 0 w (by omega) rfl (by omega)
    · unfold impl_WireAll.f
      refine Ev.bind hi ?_
      simp only [if_true, Option.bind_some, List.nil_append, List.length_nil, if_pos (show 0 + w.length < 5864062014805 by omega)]
      refine Ev.bind (impl_loose w (by omega) h1) ?_
      refine impl_all_l0 hm (looseF n w) (by omega) (looseF n w) 0 w (by omega) rfl (by omega) (fun x hx => (wcues h x hx).1) (AscW_of h) (idxF_nodup2 _ _ _) (fun c hc => ?_)
      have := (idxF_mem _ _ _ _).1 hc
      exact ⟨this.1, findW_neg (of_decide_eq_true this.2.2)⟩
  · rw [tt_neg h] at hi
    rw [tt_neg h, if_neg (by decide)] at hs
    refine ⟨([], 1), ?_, ?_, by simp, fun x => absurd x (by decide)⟩
    · unfold spec_WireAll.f
      refine Ev.bind hs ?_
      simp only [if_neg (show ¬ (1 : Int) = 0 by decide)]
      exact Ev.now _
    · unfold impl_WireAll.f
      refine Ev.bind hi ?_
      simp only [Bool.false_eq_true, if_false]
      exact Ev.now _
theorem agree_WireAll (m0 : List S98) (a1 : Int) (m2 : List S103) (hn0 : m0.length ≤ 1000000) (hq0 : ∀ x ∈ m0, (I64 x.f0 ∧ I64 x.f1)) (q1 : I64 a1) (hn2 : m2.length ≤ 1000000) (hq2 : ∀ x ∈ m2, (I64 x.f0 ∧ I64 x.f1 ∧ I64 x.f2)) : ∃ (K : Nat) (r1 : List (S103)) (r2 : Int), r1.length ≤ 10000000 ∧ ∀ k, K ≤ k → spec_WireAll.f k m0 a1 m2 = some (r1, r2) ∧ impl_WireAll.f k m0 a1 m2 = some (r1, r2) := by
  obtain ⟨⟨x, y⟩, e1, e2, hl, _⟩ := wireall_ev m0 hn0 a1 m2 hn2
  obtain ⟨K, hk⟩ := Ev_both e1 e2
  exact ⟨K, x, y, by simp at hl; omega, hk⟩
end Go.Proofs.Ytalcbcelalbhiaa.Pure
