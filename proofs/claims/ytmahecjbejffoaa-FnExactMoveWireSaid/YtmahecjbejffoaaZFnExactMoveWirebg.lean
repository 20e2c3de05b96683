/- PureFnExactMoveWire of the law FnExactMoveWire: taken over, declaration by declaration, as far as the law leans on it (the words and the printed functions are the kit's own print). No condition but what each says. -/
import Derived.Test.YtmahecjbejffoaaZFnExactMoveWireav
import Derived.Test.YtmahecjbejffoaaZFnExactMoveWireaw
import Derived.Test.YtmahecjbejffoaaZFnExactMoveWireax
import Derived.Test.YtmahecjbejffoaaZFnExactMoveWireay
import Derived.Test.YtmahecjbejffoaaZFnExactMoveWireaz
import Derived.Test.YtmahecjbejffoaaZFnExactMoveWireba
import Derived.Test.YtmahecjbejffoaaZFnExactMoveWirebb
import Derived.Test.YtmahecjbejffoaaZFnExactMoveWirebc
import Derived.Test.YtmahecjbejffoaaZFnExactMoveWirebd
namespace Go.Proofs.Ytmahecjbejffoaa.Pure
open Go.RowKit Go.Proofs.Ytmahecjbejffoaa.PFnExactMoveWire Go.Proofs.YtmahecjbejffoaaW.PrintWords Go.Proofs.YtmahecjbejffoaaW.PrintLast Go.Proofs.Ytmahecjbejffoaa.Opening
set_option linter.unusedVariables false
set_option linter.unusedSimpArgs false
theorem w64 {n : Int} (h : -9223372036854775808 ≤ n ∧ n ≤ 9223372036854775807) : wrap64 n = n := by
  unfold wrap64
  omega
theorem l01In_eq (a b c : Int) : spec_l01In.f a b c = some (decide (b ≤ a ∧ a ≤ c)) := by
  unfold spec_l01In.f
  by_cases h : b ≤ a <;> simp [h]
theorem within_eq (a b c : Int) : impl_within.f a b c = some (decide (b ≤ a ∧ a ≤ c)) := by
  unfold impl_within.f
  by_cases h : b ≤ a <;> simp [h]
theorem drop_cons {α : Type} {l : List α} {i : Int} {a : α} {s : List α} (z : α) (h0 : 0 ≤ i) (h : l.drop i.toNat = a :: s) : i < l.length ∧ l.getD i.toNat z = a ∧ l.drop (i + 1).toNat = s := by
  have hlt : i.toNat < l.length := by
    rcases Nat.lt_or_ge i.toNat l.length with h1 | h1
    · exact h1
    · rw [List.drop_eq_nil_of_le h1] at h; cases h
  rw [List.drop_eq_getElem_cons hlt] at h
  injection h with h1 h2
  refine ⟨by omega, ?_, ?_⟩
  · rw [List.getD_eq_getElem?_getD, List.getElem?_eq_getElem hlt]; exact h1
  · rw [show (i + 1).toNat = i.toNat + 1 by omega]; exact h2
theorem drop_nil {α : Type} {l : List α} {i : Int} (h0 : 0 ≤ i) (h : l.drop i.toNat = []) : ¬ i < (l.length : Int) := by
  have := List.drop_eq_nil_iff.1 h
  omega
theorem Ev_shift {α : Type} {g : Nat → Option α} {r : α} (h : Ev (fun k => g (k + 1)) r) : Ev g r := Ev.step (fun _ => rfl) h
theorem Ev_both {α β : Type} {g : Nat → Option α} {f : Nat → Option β} {r : α} {q : β} (h1 : Ev g r) (h2 : Ev f q) : ∃ K, ∀ k, K ≤ k → g k = some r ∧ f k = some q := by
  obtain ⟨K, h1⟩ := h1
  obtain ⟨K', h2⟩ := h2
  exact ⟨max K K', fun k hk => ⟨h1 k (by omega), h2 k (by omega)⟩⟩
theorem Ev_eq {α : Type} {g : Nat → Option α} {r q : α} (h : Ev g r) (e : r = q) : Ev g q := e ▸ h
theorem Ev_some {α : Type} {r q : α} (e : r = q) : Ev (fun _ => some r) q := e ▸ Ev.now r
noncomputable def tt (p : Prop) : Bool := @decide p (Classical.propDecidable p)
theorem tt_pos {p : Prop} (h : p) : tt p = true := by unfold tt; exact @decide_eq_true p (Classical.propDecidable p) h
theorem tt_neg {p : Prop} (h : ¬ p) : tt p = false := by unfold tt; exact @decide_eq_false p (Classical.propDecidable p) h
theorem tt_dec (p : Prop) [i : Decidable p] : tt p = decide p := by
  by_cases h : p
  · rw [tt_pos h, decide_eq_true h]
  · rw [tt_neg h, decide_eq_false h]
theorem tt_iff {p q : Prop} (h : p ↔ q) : tt p = tt q := by rw [propext h]
theorem tt_and (p q : Prop) : (tt p && tt q) = tt (p ∧ q) := by
  by_cases h : p
  · rw [tt_pos h, Bool.true_and]; exact tt_iff ⟨fun x => ⟨h, x⟩, fun x => x.2⟩
  · rw [tt_neg h, Bool.false_and, tt_neg (fun x => h x.1)]
theorem ev_all {L : Int → Nat → Option Bool} {P : Int → Prop} {n : Int} {fin : Bool} (h1 : ∀ i, 0 ≤ i → i < n → P i → ∀ r, Ev (L (i + 1)) r → Ev (L i) r) (h2 : ∀ i, 0 ≤ i → i < n → ¬ P i → Ev (L i) false) (h3 : Ev (L n) fin) :
    ∀ (d : Nat) (i : Int), 0 ≤ i → i + d = n → Ev (L i) (fin && tt (∀ j, i ≤ j → j < n → P j))
  | 0, i, h0, hd => by
    have e : i = n := by omega
    rw [e, tt_pos (fun j h1 h2 => by omega), Bool.and_true]
    exact h3
  | d + 1, i, h0, hd => by
    by_cases hp : P i
    · have := h1 i h0 (by omega) hp _ (ev_all h1 h2 h3 d (i + 1) (by omega) (by omega))
      refine Ev_eq this ?_
      congr 1
      exact tt_iff ⟨fun h j h1 h2 => by
        by_cases e : j = i
        · rw [e]; exact hp
        · exact h j (by omega) h2, fun h j h1 h2 => h j (by omega) h2⟩
    · rw [tt_neg (fun h => hp (h i (Int.le_refl _) (by omega))), Bool.and_false]
      exact h2 i h0 (by omega) hp
theorem getD_at_mid {α : Type} (z : α) (p : List α) (b : α) (s : List α) : (p ++ b :: s).getD ((p.length : Int)).toNat z = b := by
  rw [Int.toNat_natCast, List.getD_eq_getElem?_getD, List.getElem?_append_right (Nat.le_refl _)]
  simp
theorem mx_eq (a b : Int) : mx a b = max a b := by
  unfold mx
  omega
/-- A module's own numbers are right at its place. -/
def PM (l : List S47) (i : Int) : Prop := 0 ≤ (rd_T47 l i).f1 ∧ (rd_T47 l i).f1 ≤ 32 ∧ (i = 0 → (rd_T47 l i).f0 = -1) ∧ (0 < i → 0 ≤ (rd_T47 l i).f0 ∧ (rd_T47 l i).f0 ≤ i - 1)
def PMods (l : List S47) : Prop := 1 ≤ l.length ∧ l.length ≤ 12 ∧ ∀ j : Int, 0 ≤ j → j < l.length → PM l j
theorem spec_AreModules_ev (l : List S47) (hn : l.length ≤ 140737488351232) : Ev (fun k => spec_AreModules.f k l) (tt (PMods l)) := by
  unfold spec_AreModules.f
  have := ev_all (L := fun i k => spec_AreModules.l0 k l i) (P := PM l) (n := l.length) (fin := decide (1 ≤ l.length ∧ l.length ≤ 12)) (fun i h0 h1 hp r hr => ?_) (fun i h0 h1 hp => ?_) ?_ l.length 0 (by omega) (by omega)
  · refine Ev_eq this ?_
    rw [← tt_dec, tt_and]
    exact tt_iff ⟨fun h => ⟨h.1.1, h.1.2, fun j h0 h1 => h.2 j h0 h1⟩, fun h => ⟨⟨h.1, h.2.1⟩, fun j h0 h1 => h.2.2 j h0 h1⟩⟩
  · refine Ev_shift ?_
    unfold PM at hp
    simp only [spec_AreModules.l0, if_pos h1, if_pos h0, l01In_eq, Option.bind_some]
    simp only [decide_eq_true_eq]
    simp only [if_pos (And.intro hp.1 hp.2.1)]
    rw [w64 (n := i + 1) (by omega)]
    by_cases h : i = 0
    · simp only [if_pos h, if_pos (hp.2.2.1 h), if_neg (show ¬ i > 0 by omega)]
      exact hr
    · simp only [if_neg h, if_pos (show i > 0 by omega), w64 (n := i - 1) (by omega)]
      have := hp.2.2.2 (by omega)
      simp only [if_pos this]
      exact hr
  · refine Ev_shift ?_
    unfold PM at hp
    simp only [spec_AreModules.l0, if_pos h1, if_pos h0, l01In_eq, Option.bind_some]
    simp only [decide_eq_true_eq]
    by_cases hq : 0 ≤ (rd_T47 l i).f1 ∧ (rd_T47 l i).f1 ≤ 32
    · simp only [if_pos hq]
      by_cases h : i = 0
      · by_cases h2 : (rd_T47 l i).f0 = -1
        · exact absurd ⟨hq.1, hq.2, fun _ => h2, fun h => by omega⟩ hp
        · simp only [if_pos h, if_neg h2]
          exact Ev.now _
      · simp only [if_neg h, if_pos (show i > 0 by omega), w64 (n := i - 1) (by omega)]
        by_cases h2 : 0 ≤ (rd_T47 l i).f0 ∧ (rd_T47 l i).f0 ≤ i - 1
        · exact absurd ⟨hq.1, hq.2, fun h => by omega, fun _ => h2⟩ hp
        · simp only [if_neg h2]
          exact Ev.now _
    · simp only [if_neg hq]
      exact Ev.now _
  · refine Ev_shift ?_
    simp only [spec_AreModules.l0, if_neg (show ¬ (l.length : Int) < l.length by omega), l01In_eq, Option.bind_some]
    exact Ev_some (by congr 1; exact propext ⟨fun h => by omega, fun h => by omega⟩)
theorem impl_AreModules_l0 (l : List S47) (hn : l.length ≤ 140737488351232) (hz : (rd_T47 l 0).f0 = -1) : Ev (fun k => impl_AreModules.l0 k l l.length 0) (tt (∀ j : Int, 0 ≤ j → j < l.length → PM l j)) := by
  have := ev_all (L := fun i k => impl_AreModules.l0 k l l.length i) (P := PM l) (n := l.length) (fin := true) (fun i h0 h1 hp r hr => ?_) (fun i h0 h1 hp => ?_) ?_ l.length 0 (by omega) (by omega)
  · refine Ev_eq this ?_
    rw [Bool.true_and]
  · refine Ev_shift ?_
    unfold PM at hp
    simp only [impl_AreModules.l0, if_pos h1, if_pos h0, within_eq, Option.bind_some]
    simp only [decide_eq_true_eq]
    simp only [if_pos (And.intro hp.1 hp.2.1)]
    rw [w64 (n := i + 1) (by omega)]
    by_cases h : i = 0
    · simp only [if_neg (show ¬ i > 0 by omega)]
      exact hr
    · simp only [if_pos (show i > 0 by omega), w64 (n := i - 1) (by omega)]
      have := hp.2.2.2 (by omega)
      simp only [if_pos this]
      exact hr
  · refine Ev_shift ?_
    unfold PM at hp
    simp only [impl_AreModules.l0, if_pos h1, if_pos h0, within_eq, Option.bind_some]
    simp only [decide_eq_true_eq]
    by_cases hq : 0 ≤ (rd_T47 l i).f1 ∧ (rd_T47 l i).f1 ≤ 32
    · simp only [if_pos hq]
      by_cases h : i = 0
      · exact absurd ⟨hq.1, hq.2, fun h => by rw [h]; exact hz, fun h => by omega⟩ hp
      · simp only [if_pos (show i > 0 by omega), w64 (n := i - 1) (by omega)]
        by_cases h2 : 0 ≤ (rd_T47 l i).f0 ∧ (rd_T47 l i).f0 ≤ i - 1
        · exact absurd ⟨hq.1, hq.2, fun h => by omega, fun _ => h2⟩ hp
        · simp only [if_neg h2]
          exact Ev.now _
    · simp only [if_neg hq]
      exact Ev.now _
  · refine Ev_shift ?_
    simp only [impl_AreModules.l0, if_neg (show ¬ (l.length : Int) < l.length by omega)]
    exact Ev.now _
theorem impl_AreModules_ev (l : List S47) (hn : l.length ≤ 140737488351232) : Ev (fun k => impl_AreModules.f k l) (tt (PMods l)) := by
  unfold impl_AreModules.f
  have bad : ∀ {q : Prop}, ¬ q → (q ↔ PMods l) → Ev (fun k => impl_AreModules.j0 k l true) (tt (PMods l)) := by
    intro q hq e
    refine Ev_shift ?_
    simp only [impl_AreModules.j0, if_true]
    exact Ev_some (tt_neg (fun h => hq (e.2 h))).symm
  by_cases h1 : (l.length : Int) < 1
  · simp only [if_pos h1]
    exact bad (q := False) (fun h => h) ⟨fun h => h.elim, fun h => by have := h.1; omega⟩
  · simp only [if_neg h1]
    by_cases h2 : (l.length : Int) > 12
    · simp only [if_pos h2]
      exact bad (q := False) (fun h => h) ⟨fun h => h.elim, fun h => by have := h.2.1; omega⟩
    · simp only [if_neg h2, if_pos (show 0 < (l.length : Int) by omega)]
      by_cases hz : (rd_T47 l 0).f0 = -1
      · rw [hz]
        refine Ev_shift ?_
        simp only [impl_AreModules.j0, bne_self_eq_false, Bool.false_eq_true, if_false]
        refine Ev_eq (impl_AreModules_l0 l hn hz) (tt_iff ⟨fun h => ⟨by omega, by omega, h⟩, fun h => h.2.2⟩)
      · have e : ((rd_T47 l 0).f0 != -1) = true := by simpa using hz
        rw [e]
        exact bad (q := False) (fun h => h) ⟨fun h => h.elim, fun h => hz ((h.2.2 0 (by omega) (by omega)).2.2.1 rfl)⟩
theorem ev_allI {L : Int → Nat → Option Bool} {Q : Int → Prop} {n : Int} {fin : Bool} (h1 : ∀ i, 0 ≤ i → i < n → (∀ j, 0 ≤ j → j < i → Q j) → Q i → ∀ r, Ev (L (i + 1)) r → Ev (L i) r) (h2 : ∀ i, 0 ≤ i → i < n → (∀ j, 0 ≤ j → j < i → Q j) → ¬ Q i → Ev (L i) false) (h3 : Ev (L n) fin) :
    ∀ (d : Nat) (i : Int), 0 ≤ i → i + d = n → (∀ j, 0 ≤ j → j < i → Q j) → Ev (L i) (fin && tt (∀ j, i ≤ j → j < n → Q j))
  | 0, i, h0, hd, hp => by
    have e : i = n := by omega
    rw [e, tt_pos (fun j h1 h2 => by omega), Bool.and_true]
    exact h3
  | d + 1, i, h0, hd, hp => by
    by_cases hq : Q i
    · have := h1 i h0 (by omega) hp hq _ (ev_allI h1 h2 h3 d (i + 1) (by omega) (by omega) (fun j j0 j1 => by
        by_cases e : j = i
        · rw [e]; exact hq
        · exact hp j j0 (by omega)))
      refine Ev_eq this ?_
      congr 1
      exact tt_iff ⟨fun h j h1 h2 => by
        by_cases e : j = i
        · rw [e]; exact hq
        · exact h j (by omega) h2, fun h j h1 h2 => h j (by omega) h2⟩
    · rw [tt_neg (fun h => hq (h i (Int.le_refl _) (by omega))), Bool.and_false]
      exact h2 i h0 (by omega) hp hq
/-- Wires. -/
def MW (w : List S141) (m p j : Int) : Prop := (rd_T141 w j).f1 = m ∧ (rd_T141 w j).f2 = p
def PPin (l : List S47) (m p : Int) : Prop := (0 ≤ m ∧ m ≤ (l.length : Int) - 1) ∧ 0 ≤ p ∧ p ≤ (rd_T47 l m).f1 - 1
def QW (l : List S47) (n : Int) (w : List S141) (i : Int) : Prop :=
  (0 ≤ (rd_T141 w i).f0 ∧ (rd_T141 w i).f0 ≤ n - 1) ∧ PPin l (rd_T141 w i).f1 (rd_T141 w i).f2 ∧ (0 < i → (rd_T141 w (i - 1)).f0 < (rd_T141 w i).f0) ∧ ∀ j : Int, 0 ≤ j → j < i → ¬ MW w (rd_T141 w i).f1 (rd_T141 w i).f2 j
def PWires (l : List S47) (n : Int) (w : List S141) : Prop := PMods l ∧ (0 ≤ n ∧ n ≤ 20) ∧ ∀ i : Int, 0 ≤ i → i < w.length → QW l n w i
theorem spec_l13At_l0 (w : List S141) (hn : w.length ≤ 1000000) (m p : Int) : ∀ (d : Nat) (i : Int), 0 ≤ i → i + d = w.length → (∀ j : Int, 0 ≤ j → j < i → ¬ MW w m p j) → ∃ r, Ev (fun k => spec_l13At.l0 k w m p i) r ∧ ((r = -1 ∧ ∀ j : Int, 0 ≤ j → j < w.length → ¬ MW w m p j) ∨ (0 ≤ r ∧ r < w.length ∧ MW w m p r ∧ ∀ j : Int, 0 ≤ j → j < r → ¬ MW w m p j))
  | 0, i, h0, hd, hp => by
    refine ⟨-1, Ev_shift ?_, .inl ⟨rfl, fun j j0 j1 => hp j j0 (by omega)⟩⟩
    simp only [spec_l13At.l0, if_neg (show ¬ i < (w.length : Int) by omega)]
    exact Ev.now _
  | d + 1, i, h0, hd, hp => by
    have hi : i < (w.length : Int) := by omega
    have more : ¬ MW w m p i → ∃ r, Ev (fun k => spec_l13At.l0 k w m p (i + 1)) r ∧ ((r = -1 ∧ ∀ j : Int, 0 ≤ j → j < w.length → ¬ MW w m p j) ∨ (0 ≤ r ∧ r < w.length ∧ MW w m p r ∧ ∀ j : Int, 0 ≤ j → j < r → ¬ MW w m p j)) := fun hm => spec_l13At_l0 w hn m p d (i + 1) (by omega) (by omega) (fun j j0 j1 => by
      by_cases e : j = i
      · rw [e]; exact hm
      · exact hp j j0 (by omega))
    by_cases c1 : (rd_T141 w i).f1 = m
    · by_cases c2 : (rd_T141 w i).f2 = p
      · refine ⟨i, Ev_shift ?_, .inr ⟨h0, hi, ⟨c1, c2⟩, hp⟩⟩
        simp only [spec_l13At.l0, if_pos hi, if_pos h0, if_pos c1, if_pos c2]
        exact Ev.now _
      · obtain ⟨r, e, hr⟩ := more (fun h => c2 h.2)
        refine ⟨r, Ev_shift ?_, hr⟩
        simp only [spec_l13At.l0, if_pos hi, if_pos h0, if_pos c1, if_neg c2, w64 (n := i + 1) (by omega)]
        exact e
    · obtain ⟨r, e, hr⟩ := more (fun h => c1 h.1)
      refine ⟨r, Ev_shift ?_, hr⟩
      simp only [spec_l13At.l0, if_pos hi, if_pos h0, if_neg c1, w64 (n := i + 1) (by omega)]
      exact e
theorem spec_l13At_ev (w : List S141) (hn : w.length ≤ 1000000) (m p : Int) : ∃ r, Ev (fun k => spec_l13At.f k w m p) r ∧ ((r = -1 ∧ ∀ j : Int, 0 ≤ j → j < w.length → ¬ MW w m p j) ∨ (0 ≤ r ∧ r < w.length ∧ MW w m p r ∧ ∀ j : Int, 0 ≤ j → j < r → ¬ MW w m p j)) := by
  unfold spec_l13At.f
  exact spec_l13At_l0 w hn m p w.length 0 (by omega) (by omega) (fun j j0 j1 => by omega)
theorem impl_cueAt_l0 (w : List S141) (hn : w.length ≤ 1000000) (m p : Int) : ∀ (d : Nat) (i : Int), 0 ≤ i → i + d = w.length → (∀ j : Int, 0 ≤ j → j < i → ¬ MW w m p j) → ∃ r, Ev (fun k => impl_cueAt.l0 k m p w w.length i) r ∧ ((r = -1 ∧ ∀ j : Int, 0 ≤ j → j < w.length → ¬ MW w m p j) ∨ ∃ q : Int, 0 ≤ q ∧ q < w.length ∧ MW w m p q ∧ r = (rd_T141 w q).f0)
  | 0, i, h0, hd, hp => by
    refine ⟨-1, Ev_shift ?_, .inl ⟨rfl, fun j j0 j1 => hp j j0 (by omega)⟩⟩
    simp only [impl_cueAt.l0, if_neg (show ¬ i < (w.length : Int) by omega)]
    exact Ev.now _
  | d + 1, i, h0, hd, hp => by
    have hi : i < (w.length : Int) := by omega
    have more : ¬ MW w m p i → ∃ r, Ev (fun k => impl_cueAt.l0 k m p w w.length (i + 1)) r ∧ ((r = -1 ∧ ∀ j : Int, 0 ≤ j → j < w.length → ¬ MW w m p j) ∨ ∃ q : Int, 0 ≤ q ∧ q < w.length ∧ MW w m p q ∧ r = (rd_T141 w q).f0) := fun hm => impl_cueAt_l0 w hn m p d (i + 1) (by omega) (by omega) (fun j j0 j1 => by
      by_cases e : j = i
      · rw [e]; exact hm
      · exact hp j j0 (by omega))
    by_cases c1 : (rd_T141 w i).f1 = m
    · by_cases c2 : (rd_T141 w i).f2 = p
      · refine ⟨_, Ev_shift ?_, .inr ⟨i, h0, hi, ⟨c1, c2⟩, rfl⟩⟩
        simp only [impl_cueAt.l0, if_pos hi, if_pos h0, if_pos c1, if_pos c2]
        exact Ev.now _
      · obtain ⟨r, e, hr⟩ := more (fun h => c2 h.2)
        refine ⟨r, Ev_shift ?_, hr⟩
        simp only [impl_cueAt.l0, if_pos hi, if_pos h0, if_pos c1, if_neg c2, w64 (n := i + 1) (by omega)]
        exact e
    · obtain ⟨r, e, hr⟩ := more (fun h => c1 h.1)
      refine ⟨r, Ev_shift ?_, hr⟩
      simp only [impl_cueAt.l0, if_pos hi, if_pos h0, if_neg c1, w64 (n := i + 1) (by omega)]
      exact e
theorem impl_cueAt_ev (w : List S141) (hn : w.length ≤ 1000000) (m p : Int) : ∃ r, Ev (fun k => impl_cueAt.f k w m p) r ∧ ((r = -1 ∧ ∀ j : Int, 0 ≤ j → j < w.length → ¬ MW w m p j) ∨ ∃ q : Int, 0 ≤ q ∧ q < w.length ∧ MW w m p q ∧ r = (rd_T141 w q).f0) := by
  unfold impl_cueAt.f
  exact impl_cueAt_l0 w hn m p w.length 0 (by omega) (by omega) (fun j j0 j1 => by omega)
theorem spec_pin_eq {l : List S47} (h : PMods l) (m p : Int) : spec_l13Pin.f l m p = some (tt (PPin l m p)) := by
  have hl := h.2.1
  unfold spec_l13Pin.f
  rw [w64 (n := (l.length : Int) - 1) (by omega), l01In_eq, Option.bind_some]
  by_cases c : 0 ≤ m ∧ m ≤ (l.length : Int) - 1
  · have hp := h.2.2 m c.1 (by omega)
    unfold PM at hp
    rw [decide_eq_true c, if_pos rfl, if_pos c.1, if_pos (by omega), w64 (n := (rd_T47 l m).f1 - 1) (by omega), l01In_eq, Option.bind_some, ← tt_dec]
    congr 1
    exact tt_iff ⟨fun h => ⟨c, h⟩, fun h => h.2⟩
  · rw [decide_eq_false c, if_neg (by decide), tt_neg (fun h => c h.1)]
theorem impl_pin_eq {l : List S47} (h : PMods l) (m p : Int) : impl_isPin.f l m p = some (tt (PPin l m p)) := by
  have hl := h.2.1
  unfold impl_isPin.f impl_isIndex.f
  rw [w64 (n := (l.length : Int) - 1) (by omega), within_eq, Option.bind_some, Option.bind_some]
  by_cases c : 0 ≤ m ∧ m ≤ (l.length : Int) - 1
  · have hp := h.2.2 m c.1 (by omega)
    unfold PM at hp
    rw [decide_eq_true c, if_pos rfl, if_pos c.1, if_pos (by omega), w64 (n := (rd_T47 l m).f1 - 1) (by omega), within_eq, Option.bind_some, ← tt_dec]
    congr 1
    exact tt_iff ⟨fun h => ⟨c, h⟩, fun h => h.2⟩
  · rw [decide_eq_false c, if_neg (by decide), tt_neg (fun h => c h.1)]
theorem spec_AreWires_ev (l : List S47) (hl : l.length ≤ 1000000) (n : Int) (w : List S141) (hn : w.length ≤ 1000000) : Ev (fun k => spec_AreWires.f k l n w) (tt (PWires l n w)) := by
  have hs := spec_AreModules_ev l (by omega)
  have bad : ¬ PWires l n w → Ev (fun k => spec_AreWires.j0 k l n w true) (tt (PWires l n w)) := fun h => by
    refine Ev_shift ?_
    simp only [spec_AreWires.j0, if_true]
    exact Ev_some (tt_neg h).symm
  unfold spec_AreWires.f
  refine Ev.bind hs ?_
  by_cases h : PMods l
  · by_cases c : 0 ≤ n ∧ n ≤ 20
    · simp only [tt_pos h, if_true, l01In_eq, Option.bind_some, decide_eq_true c, Bool.not_true]
      refine Ev_shift ?_
      simp only [spec_AreWires.j0, Bool.false_eq_true, if_false]
      have := ev_allI (L := fun i k => spec_AreWires.l0 k l n w i) (Q := QW l n w) (n := w.length) (fin := true)
        (fun i h0 h1 hp hq r hr => by
          have hc := hq.1
          obtain ⟨z, ez, hz⟩ := spec_l13At_ev w hn (rd_T141 w i).f1 (rd_T141 w i).f2
          have e : z = i := by
            rcases hz with ⟨_, hz⟩ | ⟨z0, z1, zm, hz⟩
            · exact absurd ⟨rfl, rfl⟩ (hz i h0 h1)
            · rcases Int.lt_or_le z i with g | g
              · exact absurd zm (hq.2.2.2 z z0 g)
              · rcases Int.lt_or_le i z with g2 | g2
                · exact absurd ⟨rfl, rfl⟩ (hz i h0 g2)
                · omega
          refine Ev_shift ?_
          simp only [spec_AreWires.l0, if_pos h1, if_pos h0, w64 (n := n - 1) (by omega), l01In_eq, Option.bind_some, decide_eq_true_eq, if_pos hc, spec_pin_eq h, tt_pos hq.2.1, if_true, w64 (n := i + 1) (by omega)]
          by_cases hi : i > 0
          · have := hq.2.2.1 hi
            simp only [if_pos hi, w64 (n := i - 1) (by omega), if_pos (show 0 ≤ i - 1 by omega), if_pos (show i - 1 < (w.length : Int) by omega), if_neg (show ¬ (rd_T141 w (i - 1)).f0 ≥ (rd_T141 w i).f0 by omega)]
            refine Ev.bind ez ?_
            simp only [if_pos e]
            exact hr
          · simp only [if_neg hi]
            refine Ev.bind ez ?_
            simp only [if_pos e]
            exact hr)
        (fun i h0 h1 hp hq => by
          obtain ⟨z, ez, hz⟩ := spec_l13At_ev w hn (rd_T141 w i).f1 (rd_T141 w i).f2
          refine Ev_shift ?_
          simp only [spec_AreWires.l0, if_pos h1, if_pos h0, w64 (n := n - 1) (by omega), l01In_eq, Option.bind_some, decide_eq_true_eq, spec_pin_eq h, w64 (n := i + 1) (by omega)]
          by_cases q1 : 0 ≤ (rd_T141 w i).f0 ∧ (rd_T141 w i).f0 ≤ n - 1
          · by_cases q2 : PPin l (rd_T141 w i).f1 (rd_T141 w i).f2
            · have last : (0 < i → (rd_T141 w (i - 1)).f0 < (rd_T141 w i).f0) → ¬ z = i := fun q3 e => by
                rcases hz with ⟨g, _⟩ | ⟨z0, z1, zm, hz⟩
                · omega
                · exact hq ⟨q1, q2, q3, fun j j0 j1 => hz j j0 (by omega)⟩
              simp only [if_pos q1, tt_pos q2, if_true]
              by_cases hi : i > 0
              · simp only [if_pos hi, w64 (n := i - 1) (by omega), if_pos (show 0 ≤ i - 1 by omega), if_pos (show i - 1 < (w.length : Int) by omega)]
                by_cases q3 : (rd_T141 w (i - 1)).f0 ≥ (rd_T141 w i).f0
                · simp only [if_pos q3]
                  exact Ev.now _
                · simp only [if_neg q3]
                  refine Ev.bind ez ?_
                  simp only [if_neg (last (fun _ => by omega))]
                  exact Ev.now _
              · simp only [if_neg hi]
                refine Ev.bind ez ?_
                simp only [if_neg (last (fun g => absurd g hi))]
                exact Ev.now _
            · simp only [if_pos q1, tt_neg q2, Bool.false_eq_true, if_false]
              exact Ev.now _
          · simp only [if_neg q1]
            exact Ev.now _)
        (by
          refine Ev_shift ?_
          simp only [spec_AreWires.l0, if_neg (show ¬ (w.length : Int) < w.length by omega)]
          exact Ev.now _) w.length 0 (by omega) (by omega) (fun j j0 j1 => by omega)
      refine Ev_eq this ?_
      rw [Bool.true_and]
      exact tt_iff ⟨fun g => ⟨h, c, fun i i0 i1 => g i i0 i1⟩, fun g i i0 i1 => g.2.2 i i0 i1⟩
    · simp only [tt_pos h, if_true, l01In_eq, Option.bind_some, decide_eq_false c, Bool.not_false]
      exact bad (fun g => c g.2.1)
  · simp only [tt_neg h, Bool.false_eq_true, if_false]
    exact bad (fun g => h g.1)
theorem impl_AreWires_ev (l : List S47) (hl : l.length ≤ 1000000) (n : Int) (w : List S141) (hn : w.length ≤ 1000000) : Ev (fun k => impl_AreWires.f k l n w) (tt (PWires l n w)) := by
  have hs := impl_AreModules_ev l (by omega)
  have bad : ¬ PWires l n w → Ev (fun k => impl_AreWires.j0 k l n w true) (tt (PWires l n w)) := fun h => by
    refine Ev_shift ?_
    simp only [impl_AreWires.j0, if_true]
    exact Ev_some (tt_neg h).symm
  unfold impl_AreWires.f
  refine Ev.bind hs ?_
  by_cases h : PMods l
  · by_cases c : 0 ≤ n ∧ n ≤ 20
    · simp only [tt_pos h, if_true, within_eq, Option.bind_some, decide_eq_true c, Bool.not_true]
      refine Ev_shift ?_
      simp only [impl_AreWires.j0, Bool.false_eq_true, if_false]
      have rt : ∀ (i j : Int), 0 ≤ j → j < i → i < w.length → rd_T141 (w.take i.toNat) j = rd_T141 w j := fun i j j0 j1 i1 => by
        show List.getD _ _ _ = List.getD _ _ _
        rw [List.getD_eq_getElem?_getD, List.getD_eq_getElem?_getD, List.getElem?_take, if_pos (by omega)]
      have look : ∀ i : Int, 0 ≤ i → i < w.length → (∀ j, 0 ≤ j → j < i → QW l n w j) → ∃ z, Ev (fun k => impl_cueAt.f k (w.take i.toNat) (rd_T141 w i).f1 (rd_T141 w i).f2) z ∧ (z ≥ 0 ↔ ¬ ∀ j : Int, 0 ≤ j → j < i → ¬ MW w (rd_T141 w i).f1 (rd_T141 w i).f2 j) := fun i h0 h1 hp => by
        have hlen : ((w.take i.toNat).length : Int) = i := by rw [List.length_take]; omega
        obtain ⟨z, ez, hz⟩ := impl_cueAt_ev (w.take i.toNat) (by rw [List.length_take]; omega) (rd_T141 w i).f1 (rd_T141 w i).f2
        refine ⟨z, ez, ?_⟩
        rw [hlen] at hz
        rcases hz with ⟨rfl, hz⟩ | ⟨q, q0, q1, qm, rfl⟩
        · refine ⟨fun g => by omega, fun g => absurd (fun j j0 j1 hm => hz j j0 j1 ?_) g⟩
          unfold MW at hm ⊢
          rw [rt i j j0 j1 h1]
          exact hm
        · unfold MW at qm
          rw [rt i q q0 q1 h1] at qm ⊢
          have := (hp q q0 q1).1
          exact ⟨fun _ g => g q q0 q1 qm, fun _ => by omega⟩
      have step : ∀ i a b c' , 0 ≤ i → i < (w.length : Int) → a = (rd_T141 w i).f0 → b = (rd_T141 w i).f1 → c' = (rd_T141 w i).f2 → (∀ j, 0 ≤ j → j < i → QW l n w j) → ∀ r, ((∀ j : Int, 0 ≤ j → j < i → ¬ MW w (rd_T141 w i).f1 (rd_T141 w i).f2 j) → Ev (fun k => impl_AreWires.l0 k l n w w w.length (i + 1)) r) → (¬ (∀ j : Int, 0 ≤ j → j < i → ¬ MW w (rd_T141 w i).f1 (rd_T141 w i).f2 j) → r = false) → Ev (fun k => impl_AreWires.j2 k l n w i w w.length i false a b c') r := fun i a b c' h0 h1 ea eb ec hp r hr hf => by
        subst ea eb ec
        obtain ⟨z, ez, hz⟩ := look i h0 h1 hp
        refine Ev_shift ?_
        simp only [impl_AreWires.j2, Bool.false_eq_true, if_false, if_pos h0, if_pos (show i ≤ (w.length : Int) by omega)]
        refine Ev.bind ez ?_
        by_cases g : z ≥ 0
        · simp only [if_pos g]
          exact Ev_some (hf (hz.1 g)).symm
        · simp only [if_neg g, w64 (n := i + 1) (by omega)]
          refine hr ?_
          by_cases y : ∀ j : Int, 0 ≤ j → j < i → ¬ MW w (rd_T141 w i).f1 (rd_T141 w i).f2 j
          · exact y
          · exact absurd (hz.2 y) g
      have no : ∀ i a b c', Ev (fun k => impl_AreWires.j2 k l n w i w w.length i true a b c') false := fun i a b c' => by
        refine Ev_shift ?_
        simp only [impl_AreWires.j2, if_true]
        exact Ev.now _
      have := ev_allI (L := fun i k => impl_AreWires.l0 k l n w w w.length i) (Q := QW l n w) (n := w.length) (fin := true)
        (fun i h0 h1 hp hq r hr => by
          have hc := hq.1
          refine Ev_shift ?_
          simp only [impl_AreWires.l0, if_pos h1, if_pos h0, w64 (n := n - 1) (by omega), within_eq, Option.bind_some, decide_eq_true_eq, if_pos hc, impl_pin_eq h, tt_pos hq.2.1, if_true]
          by_cases hi : i > 0
          · have := hq.2.2.1 hi
            simp only [if_pos hi, w64 (n := i - 1) (by omega), if_pos (show 0 ≤ i - 1 by omega), if_pos (show i - 1 < (w.length : Int) by omega), decide_eq_false (show ¬ (rd_T141 w (i - 1)).f0 ≥ (rd_T141 w i).f0 by omega)]
            exact step i _ _ _ h0 h1 rfl rfl rfl hp r (fun _ => hr) (fun g => absurd hq.2.2.2 g)
          · simp only [if_neg hi]
            exact step i _ _ _ h0 h1 rfl rfl rfl hp r (fun _ => hr) (fun g => absurd hq.2.2.2 g))
        (fun i h0 h1 hp hq => by
          refine Ev_shift ?_
          simp only [impl_AreWires.l0, if_pos h1, if_pos h0, w64 (n := n - 1) (by omega), within_eq, Option.bind_some, decide_eq_true_eq, impl_pin_eq h]
          by_cases q1 : 0 ≤ (rd_T141 w i).f0 ∧ (rd_T141 w i).f0 ≤ n - 1
          · by_cases q2 : PPin l (rd_T141 w i).f1 (rd_T141 w i).f2
            · simp only [if_pos q1, tt_pos q2, if_true]
              by_cases hi : i > 0
              · simp only [if_pos hi, w64 (n := i - 1) (by omega), if_pos (show 0 ≤ i - 1 by omega), if_pos (show i - 1 < (w.length : Int) by omega)]
                by_cases q3 : (rd_T141 w (i - 1)).f0 ≥ (rd_T141 w i).f0
                · simp only [decide_eq_true q3]
                  exact no i _ _ _
                · simp only [decide_eq_false q3]
                  exact step i _ _ _ h0 h1 rfl rfl rfl hp false (fun g => absurd ⟨q1, q2, fun _ => by omega, g⟩ hq) (fun _ => rfl)
              · simp only [if_neg hi]
                exact step i _ _ _ h0 h1 rfl rfl rfl hp false (fun g => absurd ⟨q1, q2, fun g2 => absurd g2 hi, g⟩ hq) (fun _ => rfl)
            · simp only [if_pos q1, tt_neg q2, Bool.false_eq_true, if_false]
              exact no i _ _ _
          · simp only [if_neg q1]
            exact no i _ _ _)
        (by
          refine Ev_shift ?_
          simp only [impl_AreWires.l0, if_neg (show ¬ (w.length : Int) < w.length by omega)]
          exact Ev.now _) w.length 0 (by omega) (by omega) (fun j j0 j1 => by omega)
      refine Ev_eq this ?_
      rw [Bool.true_and]
      exact tt_iff ⟨fun g => ⟨h, c, fun i i0 i1 => g i i0 i1⟩, fun g i i0 i1 => g.2.2 i i0 i1⟩
    · simp only [tt_pos h, if_true, within_eq, Option.bind_some, decide_eq_false c, Bool.not_false]
      exact bad (fun g => c g.2.1)
  · simp only [tt_neg h, Bool.false_eq_true, if_false]
    exact bad (fun g => h g.1)
theorem wcode_ev (l : List S47) (hl : l.length ≤ 1000000) (n : Int) (w : List S141) (hn : w.length ≤ 1000000) (m c : Int) : Ev (fun k => spec_l13Code.f k l n w m c) (if tt (PWires l n w) = true then (if (0 ≤ m ∧ m ≤ (l.length : Int) - 1) ∧ 0 ≤ c ∧ c ≤ max 0 (n - 1) then 0 else 2) else 1) := by
  unfold spec_l13Code.f
  refine Ev.bind (spec_AreWires_ev l hl n w hn) ?_
  by_cases h : PWires l n w
  · have h1 := h.2.1
    simp only [tt_pos h, if_true, w64 (n := (l.length : Int) - 1) (by omega), w64 (n := n - 1) (by omega), mx_eq, l01In_eq, Option.bind_some, decide_eq_true_eq]
    by_cases c1 : 0 ≤ m ∧ m ≤ (l.length : Int) - 1
    · by_cases c2 : 0 ≤ c ∧ c ≤ max 0 (n - 1)
      · simp only [if_pos c1, if_pos c2, if_pos (show (0 ≤ m ∧ m ≤ (l.length : Int) - 1) ∧ 0 ≤ c ∧ c ≤ max 0 (n - 1) from ⟨c1, c2⟩)]
        exact Ev.now _
      · simp only [if_pos c1, if_neg c2, if_neg (show ¬ ((0 ≤ m ∧ m ≤ (l.length : Int) - 1) ∧ 0 ≤ c ∧ c ≤ max 0 (n - 1)) from fun g => c2 g.2)]
        exact Ev.now _
    · simp only [if_neg c1, if_neg (show ¬ ((0 ≤ m ∧ m ≤ (l.length : Int) - 1) ∧ 0 ≤ c ∧ c ≤ max 0 (n - 1)) from fun g => c1 g.1)]
      exact Ev.now _
  · simp only [tt_neg h, Bool.false_eq_true, if_false]
    exact Ev.now _
/-- The index of the wire of a cue, from the index i on, or -1. -/
def findW (c : Int) : List S141 → Int → Int
  | [], _ => -1
  | a :: s, i => if a.f0 = c then i else findW c s (i + 1)
theorem findW_cases (c : Int) : ∀ (s : List S141) (i : Int), (findW c s i = -1 ∧ ∀ a ∈ s, ¬ a.f0 = c) ∨ ∃ p a t, s = p ++ a :: t ∧ a.f0 = c ∧ (∀ b ∈ p, ¬ b.f0 = c) ∧ findW c s i = i + (p.length : Int)
  | [], i => .inl ⟨rfl, by simp⟩
  | a :: s, i => by
    unfold findW
    by_cases h : a.f0 = c
    · rw [if_pos h]
      exact .inr ⟨[], a, s, rfl, h, by simp, by simp⟩
    · rw [if_neg h]
      rcases findW_cases c s (i + 1) with ⟨e, hn⟩ | ⟨p, b, t, rfl, hb, hp, e⟩
      · refine .inl ⟨e, fun x hx => ?_⟩
        rcases List.mem_cons.1 hx with rfl | hx
        · exact h
        · exact hn x hx
      · refine .inr ⟨a :: p, b, t, rfl, hb, fun x hx => ?_, by rw [e]; simp; omega⟩
        rcases List.mem_cons.1 hx with rfl | hx
        · exact h
        · exact hp x hx
theorem spec_find_l0 (l : List S141) (hn : l.length ≤ 1000000) (c : Int) : ∀ (s : List S141) (i : Int), 0 ≤ i → l.drop i.toNat = s → Ev (fun k => spec_l13Find.l0 k l c i) (findW c s i)
  | [], i, h0, h => by
    refine Ev_shift ?_
    simp only [spec_l13Find.l0, if_neg (drop_nil h0 h)]
    exact Ev.now _
  | a :: s, i, h0, h => by
    refine Ev_shift ?_
    obtain ⟨h1, h2, h3⟩ := drop_cons z141 h0 h
    have h2' : rd_T141 l i = a := h2
    unfold findW
    by_cases g : a.f0 = c
    · simp only [spec_l13Find.l0, if_pos h1, if_pos h0, h2', if_pos g]
      exact Ev.now _
    · simp only [spec_l13Find.l0, if_pos h1, if_pos h0, h2', if_neg g, w64 (n := i + 1) (by omega)]
      exact spec_find_l0 l hn c s (i + 1) (by omega) h3
theorem spec_find (l : List S141) (hn : l.length ≤ 1000000) (c : Int) : Ev (fun k => spec_l13Find.f k l c) (findW c l 0) := by
  unfold spec_l13Find.f
  exact spec_find_l0 l hn c l 0 (by omega) rfl
theorem impl_find_l0 (l : List S141) (hn : l.length ≤ 1000000) (c : Int) : ∀ (s : List S141) (i : Int), 0 ≤ i → l.drop i.toNat = s → Ev (fun k => impl_wireOf.l0 k c l l.length i) (findW c s i)
  | [], i, h0, h => by
    refine Ev_shift ?_
    simp only [impl_wireOf.l0, if_neg (drop_nil h0 h)]
    exact Ev.now _
  | a :: s, i, h0, h => by
    refine Ev_shift ?_
    obtain ⟨h1, h2, h3⟩ := drop_cons z141 h0 h
    have h2' : rd_T141 l i = a := h2
    unfold findW
    by_cases g : a.f0 = c
    · simp only [impl_wireOf.l0, if_pos h1, if_pos h0, h2', if_pos g]
      exact Ev.now _
    · simp only [impl_wireOf.l0, if_pos h1, if_pos h0, h2', if_neg g, w64 (n := i + 1) (by omega)]
      exact impl_find_l0 l hn c s (i + 1) (by omega) h3
theorem impl_find (l : List S141) (hn : l.length ≤ 1000000) (c : Int) : Ev (fun k => impl_wireOf.f k l c) (findW c l 0) := by
  unfold impl_wireOf.f
  exact impl_find_l0 l hn c l 0 (by omega) rfl
theorem wlt {l : List S47} {n : Int} {w : List S141} (h : PWires l n w) {i j : Int} (i0 : 0 ≤ i) (ij : i < j) (j1 : j < w.length) : (rd_T141 w i).f0 < (rd_T141 w j).f0 := by
  have step : ∀ d : Nat, ∀ i : Int, 0 ≤ i → i + d + 1 < w.length → (rd_T141 w i).f0 < (rd_T141 w (i + d + 1)).f0 := fun d => by
    induction d with
    | zero =>
      intro i i0 hi
      have := (h.2.2 (i + (0 : Nat) + 1) (by omega) (by omega)).2.2.1 (by omega)
      rw [show i + ((0 : Nat) : Int) + 1 - 1 = i by omega] at this
      exact this
    | succ d ih =>
      intro i i0 hi
      have h1 := ih i i0 (by omega)
      have := (h.2.2 (i + (d + 1 : Nat) + 1) (by omega) (by omega)).2.2.1 (by omega)
      rw [show i + ((d + 1 : Nat) : Int) + 1 - 1 = i + (d : Int) + 1 by omega] at this
      omega
  have := step (j - i - 1).toNat i i0 (by omega)
  rw [show i + ((j - i - 1).toNat : Int) + 1 = j by omega] at this
  exact this
theorem winj {l : List S47} {n : Int} {w : List S141} (h : PWires l n w) {i j : Int} (i0 : 0 ≤ i) (i1 : i < w.length) (j0 : 0 ≤ j) (j1 : j < w.length) (e : (rd_T141 w i).f0 = (rd_T141 w j).f0) : i = j := by
  rcases Int.lt_or_le i j with g | g
  · have := wlt h i0 g j1
    omega
  · rcases Int.lt_or_le j i with g2 | g2
    · have := wlt h j0 g2 i1
      omega
    · omega
theorem findW_at (w : List S141) (c : Int) : (findW c w 0 = -1 ∧ ∀ a ∈ w, ¬ a.f0 = c) ∨ (0 ≤ findW c w 0 ∧ findW c w 0 < w.length ∧ (rd_T141 w (findW c w 0)).f0 = c) := by
  rcases findW_cases c w 0 with h | ⟨p, a, t, e, ha, hp, hf⟩
  · exact .inl h
  · refine .inr ?_
    rw [hf]
    subst e
    have : rd_T141 (p ++ a :: t) (0 + (p.length : Int)) = a := by
      rw [Int.zero_add]
      exact getD_at_mid _ p a t
    rw [this]
    exact ⟨by omega, by simp; omega, ha⟩
theorem wcue_ev (l : List S47) (hl : l.length ≤ 1000000) (n : Int) (w : List S141) (hn : w.length ≤ 1000000) (c : Int) : Ev (fun k => spec_l13Cue.f k l n w c) (if tt (PWires l n w) = true then (if 0 ≤ c ∧ c ≤ n - 1 then 0 else 2) else 1) := by
  have hs := wcode_ev l hl n w hn 0 c
  unfold spec_l13Cue.f
  by_cases h : PWires l n w
  · have h1 := h.2.1
    have h2 := h.1.1
    rw [tt_pos h, if_pos rfl] at hs ⊢
    by_cases g : 0 ≤ c ∧ c ≤ max 0 (n - 1)
    · rw [if_pos (⟨⟨Int.le_refl _, by omega⟩, g⟩ : (0 ≤ (0 : Int) ∧ 0 ≤ (l.length : Int) - 1) ∧ 0 ≤ c ∧ c ≤ max 0 (n - 1))] at hs
      refine Ev.bind hs ?_
      by_cases g2 : n = 0
      · rw [if_neg (show ¬ (0 ≤ c ∧ c ≤ n - 1) by omega)]
        simp only [if_true, if_pos g2]
        exact Ev.now _
      · rw [if_pos (show 0 ≤ c ∧ c ≤ n - 1 by omega)]
        simp only [if_true, if_neg g2]
        exact Ev.now _
    · rw [if_neg (fun x => g x.2)] at hs
      rw [if_neg (show ¬ (0 ≤ c ∧ c ≤ n - 1) by omega)]
      refine Ev.bind hs ?_
      simp only [if_neg (show ¬ (2 : Int) = 0 by decide)]
      exact Ev.now _
  · rw [tt_neg h, if_neg (by decide)] at hs ⊢
    refine Ev.bind hs ?_
    simp only [if_neg (show ¬ (1 : Int) = 0 by decide)]
    exact Ev.now _
/-- The two searches for a pin's wire tell the same. -/
theorem cueat_eq {l : List S47} {n : Int} {w : List S141} (h : PWires l n w) {m p z y : Int}
    (hz : (z = -1 ∧ ∀ j : Int, 0 ≤ j → j < w.length → ¬ MW w m p j) ∨ (0 ≤ z ∧ z < w.length ∧ MW w m p z ∧ ∀ j : Int, 0 ≤ j → j < z → ¬ MW w m p j))
    (hy : (y = -1 ∧ ∀ j : Int, 0 ≤ j → j < w.length → ¬ MW w m p j) ∨ ∃ q : Int, 0 ≤ q ∧ q < w.length ∧ MW w m p q ∧ y = (rd_T141 w q).f0) :
    (z = -1 ∧ y = -1) ∨ (0 ≤ z ∧ z < w.length ∧ y = (rd_T141 w z).f0 ∧ 0 ≤ y) := by
  rcases hz with ⟨rfl, hz⟩ | ⟨z0, z1, zm, hz⟩
  · rcases hy with ⟨e, _⟩ | ⟨q, q0, q1, qm, _⟩
    · exact .inl ⟨rfl, e⟩
    · exact absurd qm (hz q q0 q1)
  · refine .inr ⟨z0, z1, ?_⟩
    rcases hy with ⟨_, hy⟩ | ⟨q, q0, q1, qm, e⟩
    · exact absurd zm (hy z z0 z1)
    · have e2 : q = z := by
        rcases Int.lt_or_le q z with g | g
        · exact absurd qm (hz q q0 g)
        · rcases Int.lt_or_le z q with g2 | g2
          · have := (h.2.2 q q0 q1).2.2.2 z z0 g2
            refine absurd ?_ this
            unfold MW at qm zm ⊢
            exact ⟨by rw [zm.1, qm.1], by rw [zm.2, qm.2]⟩
          · omega
      subst e2
      have := (h.2.2 q q0 q1).1
      exact ⟨e, by omega⟩
/-- The wires with one that leads to another pin. -/
def movW (w : List S141) (i m p : Int) : List S141 :=
  (w.set i.toNat (⟨(rd_T141 w i).f0, m, (rd_T141 w i).f2⟩ : S141)).set i.toNat (⟨(rd_T141 (w.set i.toNat (⟨(rd_T141 w i).f0, m, (rd_T141 w i).f2⟩ : S141)) i).f0, (rd_T141 (w.set i.toNat (⟨(rd_T141 w i).f0, m, (rd_T141 w i).f2⟩ : S141)) i).f1, p⟩ : S141)
theorem movW_length (w : List S141) (i m p : Int) : (movW w i m p).length = w.length := by
  unfold movW
  simp
theorem move_ev (l : List S47) (hl : l.length ≤ 1000000) (n : Int) (w : List S141) (hn : w.length ≤ 1000000) (c m p : Int) : ∃ q : List S141 × Int, Ev (fun k => spec_MoveWire.f k l n w c m p) q ∧ Ev (fun k => impl_MoveWire.f k l n w c m p) q ∧ q.1.length ≤ 2000000 ∧ (q.2 = 0 → PWires l n w ∧ PPin l m p ∧ 0 ≤ c ∧ c ≤ n - 1 ∧ 0 ≤ findW c w 0 ∧ q.1 = movW w (findW c w 0) m p ∧ ∀ j : Int, 0 ≤ j → j < w.length → MW w m p j → j = findW c w 0) := by
  have hs := wcue_ev l hl n w hn c
  have hi := impl_AreWires_ev l hl n w hn
  have hz := findW_at w c
  have es := spec_find w hn c
  have ei := impl_find w hn c
  obtain ⟨z, ez, pz⟩ := spec_l13At_ev w hn m p
  obtain ⟨y, ey, py⟩ := impl_cueAt_ev w hn m p
  have j3 : ∀ d : Int, ∀ i, d ≠ 0 → Ev (fun k => spec_MoveWire.j3 k w m p d i) (([] : List S141), d) := fun d i hd => by
    refine Ev_shift ?_
    simp only [spec_MoveWire.j3, if_neg hd]
    exact Ev.now _
  have j1 : ∀ d : Int, d ≠ 0 → Ev (fun k => spec_MoveWire.j1 k w c m p d) (([] : List S141), d) := fun d hd => by
    refine Ev_shift ?_
    simp only [spec_MoveWire.j1]
    refine Ev.bind es ?_
    simp only [if_neg hd]
    refine Ev_shift ?_
    simp only [spec_MoveWire.j2, Bool.false_eq_true, if_false]
    exact j3 d _ hd
  have i0 : Ev (fun k => impl_MoveWire.j0 k w c m p true) (([] : List S141), (2 : Int)) := by
    refine Ev_shift ?_
    simp only [impl_MoveWire.j0, if_true]
    exact Ev.now _
  by_cases h : PWires l n w
  · have h1 := h.2.1
    have hm := h.1
    rw [tt_pos h] at hi
    rw [tt_pos h, if_pos rfl] at hs
    by_cases g : 0 ≤ c ∧ c ≤ n - 1
    · rw [if_pos g] at hs
      by_cases g2 : PPin l m p
      · have sc : ∀ q, Ev (fun k => spec_MoveWire.j2 k w m p 0 (findW c w 0) (decide (findW c w 0 < 0))) q → Ev (fun k => spec_MoveWire.f k l n w c m p) q := fun q hq => by
          unfold spec_MoveWire.f
          refine Ev.bind hs ?_
          simp only [if_true, spec_pin_eq hm, Option.bind_some, tt_pos g2, Bool.not_true]
          refine Ev_shift ?_
          simp only [spec_MoveWire.j0, Bool.false_eq_true, if_false]
          refine Ev_shift ?_
          simp only [spec_MoveWire.j1]
          refine Ev.bind es ?_
          simp only [if_true]
          exact hq
        have ic : ∀ q, Ev (fun k => impl_MoveWire.j0 k w c m p false) q → Ev (fun k => impl_MoveWire.f k l n w c m p) q := fun q hq => by
          unfold impl_MoveWire.f
          refine Ev.bind hi ?_
          simp only [if_true, w64 (n := n - 1) (by omega), within_eq, Option.bind_some, decide_eq_true g, impl_pin_eq hm, tt_pos g2, Bool.not_true]
          exact hq
        rcases hz with ⟨hf, _⟩ | ⟨f0, f1, f2⟩
        · refine ⟨([], 4), sc _ ?_, ic _ ?_, by simp, fun x => absurd x (by decide)⟩
          · rw [hf]
            refine Ev_shift ?_
            simp only [spec_MoveWire.j2, show decide ((-1 : Int) < 0) = true from rfl, if_true]
            exact j3 4 _ (by decide)
          · refine Ev_shift ?_
            simp only [impl_MoveWire.j0, Bool.false_eq_true, if_false]
            refine Ev.bind ei ?_
            rw [hf]
            simp only [if_pos (show (-1 : Int) < 0 by decide)]
            exact Ev.now _
        · have hzy := cueat_eq h pz py
          have free : (z = -1 ∧ y = -1) ∨ z = findW c w 0 → ∀ j : Int, 0 ≤ j → j < w.length → MW w m p j → j = findW c w 0 := fun hh j j0 j1 hj => by
            rcases pz with ⟨e, pz⟩ | ⟨z0, z1, zm, pz⟩
            · exact absurd hj (pz j j0 j1)
            · rcases hh with ⟨e, _⟩ | hh
              · omega
              · rw [← hh]
                rcases Int.lt_or_le j z with q | q
                · exact absurd hj (pz j j0 q)
                · rcases Int.lt_or_le z j with q2 | q2
                  · have := (h.2.2 j j0 j1).2.2.2 z z0 q2
                    refine absurd ?_ this
                    unfold MW at hj zm ⊢
                    exact ⟨by rw [zm.1, hj.1], by rw [zm.2, hj.2]⟩
                  · omega
          have good : ((z = -1 ∧ y = -1) ∨ z = findW c w 0) → ((z = -1 ∧ y = -1) ∨ (0 ≤ z ∧ y = c ∧ 0 ≤ y)) → ∃ q : List S141 × Int, Ev (fun k => spec_MoveWire.f k l n w c m p) q ∧ Ev (fun k => impl_MoveWire.f k l n w c m p) q ∧ q.1.length ≤ 2000000 ∧ (q.2 = 0 → PWires l n w ∧ PPin l m p ∧ 0 ≤ c ∧ c ≤ n - 1 ∧ 0 ≤ findW c w 0 ∧ q.1 = movW w (findW c w 0) m p ∧ ∀ j : Int, 0 ≤ j → j < w.length → MW w m p j → j = findW c w 0) := fun ha hb => by
            have cm : ∀ (i : Int), i = findW c w 0 → 0 ≤ i ∧ i < (([] : List S141) ++ w).length := fun i e => by rw [e, List.nil_append]; exact ⟨f0, f1⟩
            refine ⟨(movW w (findW c w 0) m p, 0), sc _ ?_, ic _ ?_, by simp only [movW_length]; omega, fun _ => ⟨h, g2, g.1, g.2, f0, rfl, free ha⟩⟩
            · refine Ev_shift ?_
              simp only [spec_MoveWire.j2, decide_eq_false (show ¬ findW c w 0 < 0 by omega), Bool.false_eq_true, if_false]
              refine Ev_shift ?_
              simp only [spec_MoveWire.j3, if_true]
              refine Ev.bind ez ?_
              rcases ha with ⟨e, _⟩ | e
              · rw [e]
                simp only [if_neg (show ¬ (-1 : Int) ≥ 0 by decide), Option.bind_some, List.nil_append, List.length_nil, if_pos (show 0 + w.length < 5864062014805 by omega), if_pos f0, if_pos f1]
                exact Ev.now _
              · rw [e]
                simp only [if_pos (show findW c w 0 ≥ 0 from f0), if_true, Option.bind_some, List.nil_append, List.length_nil, if_pos (show 0 + w.length < 5864062014805 by omega), if_pos f0, if_pos f1]
                exact Ev.now _
            · refine Ev_shift ?_
              simp only [impl_MoveWire.j0, Bool.false_eq_true, if_false]
              refine Ev.bind ei ?_
              simp only [if_neg (show ¬ findW c w 0 < 0 by omega)]
              refine Ev.bind ey ?_
              rcases hb with ⟨_, e⟩ | ⟨_, e, e0⟩
              · rw [e]
                simp only [if_neg (show ¬ (-1 : Int) ≥ 0 by decide), Option.bind_some, List.nil_append, List.length_nil, if_pos (show 0 + w.length < 5864062014805 by omega), if_pos f0, if_pos f1]
                exact Ev.now _
              · simp only [if_pos (show y ≥ 0 from e0), if_pos e, Option.bind_some, List.nil_append, List.length_nil, if_pos (show 0 + w.length < 5864062014805 by omega), if_pos f0, if_pos f1]
                exact Ev.now _
          rcases hzy with ⟨a, b⟩ | ⟨z0, z1, yz, y0⟩
          · exact good (.inl ⟨a, b⟩) (.inl ⟨a, b⟩)
          · by_cases e : z = findW c w 0
            · refine good (.inr e) (.inr ⟨z0, ?_, y0⟩)
              rw [yz, e, f2]
            · have e2 : ¬ y = c := fun x => e (winj h z0 z1 f0 f1 (by rw [← yz, f2, x]))
              refine ⟨([], 5), sc _ ?_, ic _ ?_, by simp, fun x => absurd x (by decide)⟩
              · refine Ev_shift ?_
                simp only [spec_MoveWire.j2, decide_eq_false (show ¬ findW c w 0 < 0 by omega), Bool.false_eq_true, if_false]
                refine Ev_shift ?_
                simp only [spec_MoveWire.j3, if_true]
                refine Ev.bind ez ?_
                simp only [if_pos (show z ≥ 0 from z0), if_neg e]
                exact Ev.now _
              · refine Ev_shift ?_
                simp only [impl_MoveWire.j0, Bool.false_eq_true, if_false]
                refine Ev.bind ei ?_
                simp only [if_neg (show ¬ findW c w 0 < 0 by omega)]
                refine Ev.bind ey ?_
                simp only [if_pos (show y ≥ 0 from y0), if_neg e2]
                exact Ev.now _
      · refine ⟨([], 2), ?_, ?_, by simp, fun x => absurd x (by decide)⟩
        · unfold spec_MoveWire.f
          refine Ev.bind hs ?_
          simp only [if_true, spec_pin_eq hm, Option.bind_some, tt_neg g2, Bool.not_false]
          refine Ev_shift ?_
          simp only [spec_MoveWire.j0, if_true]
          exact j1 2 (by decide)
        · unfold impl_MoveWire.f
          refine Ev.bind hi ?_
          simp only [if_true, w64 (n := n - 1) (by omega), within_eq, Option.bind_some, decide_eq_true g, impl_pin_eq hm, tt_neg g2, Bool.not_false]
          exact i0
    · rw [if_neg g] at hs
      refine ⟨([], 2), ?_, ?_, by simp, fun x => absurd x (by decide)⟩
      · unfold spec_MoveWire.f
        refine Ev.bind hs ?_
        simp only [if_neg (show ¬ (2 : Int) = 0 by decide)]
        refine Ev_shift ?_
        simp only [spec_MoveWire.j0, Bool.false_eq_true, if_false]
        exact j1 2 (by decide)
      · unfold impl_MoveWire.f
        refine Ev.bind hi ?_
        simp only [if_true, w64 (n := n - 1) (by omega), within_eq, Option.bind_some, decide_eq_false g, Bool.false_eq_true, if_false]
        exact i0
  · rw [tt_neg h] at hi
    rw [tt_neg h, if_neg (by decide)] at hs
    refine ⟨([], 1), ?_, ?_, by simp, fun x => absurd x (by decide)⟩
    · unfold spec_MoveWire.f
      refine Ev.bind hs ?_
      simp only [if_neg (show ¬ (1 : Int) = 0 by decide)]
      refine Ev_shift ?_
      simp only [spec_MoveWire.j0, Bool.false_eq_true, if_false]
      exact j1 1 (by decide)
    · unfold impl_MoveWire.f
      refine Ev.bind hi ?_
      simp only [Bool.false_eq_true, if_false]
      exact Ev.now _
theorem agree_MoveWire (m0 : List S47) (a1 : Int) (m2 : List S141) (a3 : Int) (a4 : Int) (a5 : Int) (hn0 : m0.length ≤ 1000000) (hq0 : ∀ x ∈ m0, (I64 x.f0 ∧ I64 x.f1)) (q1 : I64 a1) (hn2 : m2.length ≤ 1000000) (hq2 : ∀ x ∈ m2, (I64 x.f0 ∧ I64 x.f1 ∧ I64 x.f2)) (q3 : I64 a3) (q4 : I64 a4) (q5 : I64 a5) : ∃ (K : Nat) (r1 : List (S141)) (r2 : Int), r1.length ≤ 10000000 ∧ ∀ k, K ≤ k → spec_MoveWire.f k m0 a1 m2 a3 a4 a5 = some (r1, r2) ∧ impl_MoveWire.f k m0 a1 m2 a3 a4 a5 = some (r1, r2) := by
  obtain ⟨⟨x, y⟩, e1, e2, hl, _⟩ := move_ev m0 hn0 a1 m2 hn2 a3 a4 a5
  obtain ⟨K, hk⟩ := Ev_both e1 e2
  exact ⟨K, x, y, by simp at hl; omega, hk⟩
end Go.Proofs.Ytmahecjbejffoaa.Pure
