/- The plain law of FnExactAddModule: what the printed functions compute, without Go and memory. No condition but the bounds that stand in it. -/
import Derived.Test.YtdkibmdpipoioaaPFnExactAddModulex0
import Derived.Test.YtdkibmdpipoioaaQFnExactAddModulea
import Derived.Test.YtdkibmdpipoioaaQFnExactAddModuleb
import Derived.Test.YtdkibmdpipoioaaQFnExactAddModulec
import Derived.Test.YtdkibmdpipoioaaQFnExactAddModuled
import Derived.Test.YtdkibmdpipoioaaOpen
namespace Go.Proofs.Ytdkibmdpipoioaa.Pure
open Go.RowKit Go.Proofs.Ytdkibmdpipoioaa.PFnExactAddModule Go.Proofs.YtdkibmdpipoioaaW.PrintWords Go.Proofs.YtdkibmdpipoioaaW.PrintLast Go.Proofs.Ytdkibmdpipoioaa.Opening
set_option linter.unusedVariables false
set_option linter.unusedSimpArgs false
theorem w64 {n : Int} (h : -9223372036854775808 ≤ n ∧ n ≤ 9223372036854775807) : wrap64 n = n := by
  unfold wrap64
  omega
theorem l01In_eq (a b c : Int) : spec_l01In.f a b c = some (decide (b ≤ a ∧ a ≤ c)) := by
  unfold spec_l01In.f
  by_cases h : b ≤ a <;> simp [h]
theorem within_eq (a b c : Int) : impl_within.f a b c = some (decide (b ≤ a ∧ a ≤ c)) := by
  unfold impl_within.f
  by_cases h : b ≤ a <;> simp [h]
theorem Ev_shift {α : Type} {g : Nat → Option α} {r : α} (h : Ev (fun k => g (k + 1)) r) : Ev g r := Ev.step (fun _ => rfl) h
theorem Ev_both {α β : Type} {g : Nat → Option α} {f : Nat → Option β} {r : α} {q : β} (h1 : Ev g r) (h2 : Ev f q) : ∃ K, ∀ k, K ≤ k → g k = some r ∧ f k = some q := by
  obtain ⟨K, h1⟩ := h1
  obtain ⟨K', h2⟩ := h2
  exact ⟨max K K', fun k hk => ⟨h1 k (by omega), h2 k (by omega)⟩⟩
theorem Ev_eq {α : Type} {g : Nat → Option α} {r q : α} (h : Ev g r) (e : r = q) : Ev g q := e ▸ h
theorem Ev_some {α : Type} {r q : α} (e : r = q) : Ev (fun _ => some r) q := e ▸ Ev.now r
noncomputable def tt (p : Prop) : Bool := @decide p (Classical.propDecidable p)
theorem tt_pos {p : Prop} (h : p) : tt p = true := by unfold tt; exact @decide_eq_true p (Classical.propDecidable p) h
theorem tt_neg {p : Prop} (h : ¬ p) : tt p = false := by unfold tt; exact @decide_eq_false p (Classical.propDecidable p) h
theorem tt_dec (p : Prop) [i : Decidable p] : tt p = decide p := by
  by_cases h : p
  · rw [tt_pos h, decide_eq_true h]
  · rw [tt_neg h, decide_eq_false h]
theorem tt_iff {p q : Prop} (h : p ↔ q) : tt p = tt q := by rw [propext h]
theorem tt_and (p q : Prop) : (tt p && tt q) = tt (p ∧ q) := by
  by_cases h : p
  · rw [tt_pos h, Bool.true_and]; exact tt_iff ⟨fun x => ⟨h, x⟩, fun x => x.2⟩
  · rw [tt_neg h, Bool.false_and, tt_neg (fun x => h x.1)]
theorem tt_eq_true {p : Prop} : tt p = true ↔ p := by
  by_cases h : p
  · exact ⟨fun _ => h, fun _ => tt_pos h⟩
  · refine ⟨fun e => ?_, fun h' => absurd h' h⟩
    rw [tt_neg h] at e
    cases e
theorem ev_all {L : Int → Nat → Option Bool} {P : Int → Prop} {n : Int} {fin : Bool} (h1 : ∀ i, 0 ≤ i → i < n → P i → ∀ r, Ev (L (i + 1)) r → Ev (L i) r) (h2 : ∀ i, 0 ≤ i → i < n → ¬ P i → Ev (L i) false) (h3 : Ev (L n) fin) :
    ∀ (d : Nat) (i : Int), 0 ≤ i → i + d = n → Ev (L i) (fin && tt (∀ j, i ≤ j → j < n → P j))
  | 0, i, h0, hd => by
    have e : i = n := by omega
    rw [e, tt_pos (fun j h1 h2 => by omega), Bool.and_true]
    exact h3
  | d + 1, i, h0, hd => by
    by_cases hp : P i
    · have := h1 i h0 (by omega) hp _ (ev_all h1 h2 h3 d (i + 1) (by omega) (by omega))
      refine Ev_eq this ?_
      congr 1
      exact tt_iff ⟨fun h j h1 h2 => by
        by_cases e : j = i
        · rw [e]; exact hp
        · exact h j (by omega) h2, fun h j h1 h2 => h j (by omega) h2⟩
    · rw [tt_neg (fun h => hp (h i (Int.le_refl _) (by omega))), Bool.and_false]
      exact h2 i h0 (by omega) hp
/-- A module's own numbers are right at its place. -/
def PM (l : List S49) (i : Int) : Prop := 0 ≤ (rd_T49 l i).f1 ∧ (rd_T49 l i).f1 ≤ 32 ∧ (i = 0 → (rd_T49 l i).f0 = -1) ∧ (0 < i → 0 ≤ (rd_T49 l i).f0 ∧ (rd_T49 l i).f0 ≤ i - 1)
def PMods (l : List S49) : Prop := 1 ≤ l.length ∧ l.length ≤ 12 ∧ ∀ j : Int, 0 ≤ j → j < l.length → PM l j
theorem spec_AreModules_ev (l : List S49) (hn : l.length ≤ 140737488351232) : Ev (fun k => spec_AreModules.f k l) (tt (PMods l)) := by
  unfold spec_AreModules.f
  have := ev_all (L := fun i k => spec_AreModules.l0 k l i) (P := PM l) (n := l.length) (fin := decide (1 ≤ l.length ∧ l.length ≤ 12)) (fun i h0 h1 hp r hr => ?_) (fun i h0 h1 hp => ?_) ?_ l.length 0 (by omega) (by omega)
  · refine Ev_eq this ?_
    rw [← tt_dec, tt_and]
    exact tt_iff ⟨fun h => ⟨h.1.1, h.1.2, fun j h0 h1 => h.2 j h0 h1⟩, fun h => ⟨⟨h.1, h.2.1⟩, fun j h0 h1 => h.2.2 j h0 h1⟩⟩
  · refine Ev_shift ?_
    unfold PM at hp
    simp only [spec_AreModules.l0, if_pos h1, if_pos h0, l01In_eq, Option.bind_some]
    simp only [decide_eq_true_eq]
    simp only [if_pos (And.intro hp.1 hp.2.1)]
    rw [w64 (n := i + 1) (by omega)]
    by_cases h : i = 0
    · simp only [if_pos h, if_pos (hp.2.2.1 h), if_neg (show ¬ i > 0 by omega)]
      exact hr
    · simp only [if_neg h, if_pos (show i > 0 by omega), w64 (n := i - 1) (by omega)]
      have := hp.2.2.2 (by omega)
      simp only [if_pos this]
      exact hr
  · refine Ev_shift ?_
    unfold PM at hp
    simp only [spec_AreModules.l0, if_pos h1, if_pos h0, l01In_eq, Option.bind_some]
    simp only [decide_eq_true_eq]
    by_cases hq : 0 ≤ (rd_T49 l i).f1 ∧ (rd_T49 l i).f1 ≤ 32
    · simp only [if_pos hq]
      by_cases h : i = 0
      · by_cases h2 : (rd_T49 l i).f0 = -1
        · exact absurd ⟨hq.1, hq.2, fun _ => h2, fun h => by omega⟩ hp
        · simp only [if_pos h, if_neg h2]
          exact Ev.now _
      · simp only [if_neg h, if_pos (show i > 0 by omega), w64 (n := i - 1) (by omega)]
        by_cases h2 : 0 ≤ (rd_T49 l i).f0 ∧ (rd_T49 l i).f0 ≤ i - 1
        · exact absurd ⟨hq.1, hq.2, fun h => by omega, fun _ => h2⟩ hp
        · simp only [if_neg h2]
          exact Ev.now _
    · simp only [if_neg hq]
      exact Ev.now _
  · refine Ev_shift ?_
    simp only [spec_AreModules.l0, if_neg (show ¬ (l.length : Int) < l.length by omega), l01In_eq, Option.bind_some]
    exact Ev_some (by congr 1; exact propext ⟨fun h => by omega, fun h => by omega⟩)
theorem impl_AreModules_l0 (l : List S49) (hn : l.length ≤ 140737488351232) (hz : (rd_T49 l 0).f0 = -1) : Ev (fun k => impl_AreModules.l0 k l l.length 0) (tt (∀ j : Int, 0 ≤ j → j < l.length → PM l j)) := by
  have := ev_all (L := fun i k => impl_AreModules.l0 k l l.length i) (P := PM l) (n := l.length) (fin := true) (fun i h0 h1 hp r hr => ?_) (fun i h0 h1 hp => ?_) ?_ l.length 0 (by omega) (by omega)
  · refine Ev_eq this ?_
    rw [Bool.true_and]
  · refine Ev_shift ?_
    unfold PM at hp
    simp only [impl_AreModules.l0, if_pos h1, if_pos h0, within_eq, Option.bind_some]
    simp only [decide_eq_true_eq]
    simp only [if_pos (And.intro hp.1 hp.2.1)]
    rw [w64 (n := i + 1) (by omega)]
    by_cases h : i = 0
    · simp only [if_neg (show ¬ i > 0 by omega)]
      exact hr
    · simp only [if_pos (show i > 0 by omega), w64 (n := i - 1) (by omega)]
      have := hp.2.2.2 (by omega)
      simp only [if_pos this]
      exact hr
  · refine Ev_shift ?_
    unfold PM at hp
    simp only [impl_AreModules.l0, if_pos h1, if_pos h0, within_eq, Option.bind_some]
    simp only [decide_eq_true_eq]
    by_cases hq : 0 ≤ (rd_T49 l i).f1 ∧ (rd_T49 l i).f1 ≤ 32
    · simp only [if_pos hq]
      by_cases h : i = 0
      · exact absurd ⟨hq.1, hq.2, fun h => by rw [h]; exact hz, fun h => by omega⟩ hp
      · simp only [if_pos (show i > 0 by omega), w64 (n := i - 1) (by omega)]
        by_cases h2 : 0 ≤ (rd_T49 l i).f0 ∧ (rd_T49 l i).f0 ≤ i - 1
        · exact absurd ⟨hq.1, hq.2, fun h => by omega, fun _ => h2⟩ hp
        · simp only [if_neg h2]
          exact Ev.now _
    · simp only [if_neg hq]
      exact Ev.now _
  · refine Ev_shift ?_
    simp only [impl_AreModules.l0, if_neg (show ¬ (l.length : Int) < l.length by omega)]
    exact Ev.now _
theorem impl_AreModules_ev (l : List S49) (hn : l.length ≤ 140737488351232) : Ev (fun k => impl_AreModules.f k l) (tt (PMods l)) := by
  unfold impl_AreModules.f
  have bad : ∀ {q : Prop}, ¬ q → (q ↔ PMods l) → Ev (fun k => impl_AreModules.j0 k l true) (tt (PMods l)) := by
    intro q hq e
    refine Ev_shift ?_
    simp only [impl_AreModules.j0, if_true]
    exact Ev_some (tt_neg (fun h => hq (e.2 h))).symm
  by_cases h1 : (l.length : Int) < 1
  · simp only [if_pos h1]
    exact bad (q := False) (fun h => h) ⟨fun h => h.elim, fun h => by have := h.1; omega⟩
  · simp only [if_neg h1]
    by_cases h2 : (l.length : Int) > 12
    · simp only [if_pos h2]
      exact bad (q := False) (fun h => h) ⟨fun h => h.elim, fun h => by have := h.2.1; omega⟩
    · simp only [if_neg h2, if_pos (show 0 < (l.length : Int) by omega)]
      by_cases hz : (rd_T49 l 0).f0 = -1
      · rw [hz]
        refine Ev_shift ?_
        simp only [impl_AreModules.j0, bne_self_eq_false, Bool.false_eq_true, if_false]
        refine Ev_eq (impl_AreModules_l0 l hn hz) (tt_iff ⟨fun h => ⟨by omega, by omega, h⟩, fun h => h.2.2⟩)
      · have e : ((rd_T49 l 0).f0 != -1) = true := by simpa using hz
        rw [e]
        exact bad (q := False) (fun h => h) ⟨fun h => h.elim, fun h => hz ((h.2.2 0 (by omega) (by omega)).2.2.1 rfl)⟩
theorem agree_AddModule (m0 : List S49) (a1_0 : Int) (a1_1 : Int) (hn0 : m0.length ≤ 1000000) (hq0 : ∀ x ∈ m0, (I64 x.f0 ∧ I64 x.f1)) (q1 : I64 a1_0 ∧ I64 a1_1) : ∃ (K : Nat) (r1 : List (S49)) (r2 : Int), r1.length ≤ 10000000 ∧ ∀ k, K ≤ k → spec_AddModule.f k m0 a1_0 a1_1 = some (r1, r2) ∧ impl_AddModule.f k m0 a1_0 a1_1 = some (r1, r2) := by
  have fin : ∀ q : List S49 × Int, q.1.length ≤ 10000000 → Ev (fun k => spec_AddModule.f k m0 a1_0 a1_1) q → Ev (fun k => impl_AddModule.f k m0 a1_0 a1_1) q → ∃ (K : Nat) (r1 : List (S49)) (r2 : Int), r1.length ≤ 10000000 ∧ ∀ k, K ≤ k → spec_AddModule.f k m0 a1_0 a1_1 = some (r1, r2) ∧ impl_AddModule.f k m0 a1_0 a1_1 = some (r1, r2) := by
    rintro ⟨x, y⟩ hq e1 e2
    obtain ⟨K, hk⟩ := Ev_both e1 e2
    exact ⟨K, x, y, hq, hk⟩
  have hs := spec_AreModules_ev m0 (by omega)
  have hi := impl_AreModules_ev m0 (by omega)
  have hs2 := spec_AreModules_ev (m0 ++ [(⟨a1_0, a1_1⟩ : S49)]) (by simp; omega)
  have hi2 := impl_AreModules_ev (m0 ++ [(⟨a1_0, a1_1⟩ : S49)]) (by simp; omega)
  by_cases h : PMods m0
  · rw [tt_pos h] at hs hi
    by_cases c : (m0.length : Int) = 12
    · refine fin ([], 3) (by simp) ?_ ?_
      · unfold spec_AddModule.f
        refine Ev.bind hs ?_
        simp only [if_true, if_pos c]
        exact Ev.now _
      · unfold impl_AddModule.f
        refine Ev.bind hi ?_
        simp only [if_true, if_pos c]
        exact Ev.now _
    · have ss : ∀ q, Ev (fun k => (spec_AreModules.f k (m0 ++ [(⟨a1_0, a1_1⟩ : S49)])).bind fun t123 => (if t123 = true then (some (m0 ++ [(⟨a1_0, a1_1⟩ : S49)], 0)) else (some (([] : List (S49)), 5)))) q → Ev (fun k => spec_AddModule.f k m0 a1_0 a1_1) q := fun q hq => by
        unfold spec_AddModule.f
        refine Ev.bind hs ?_
        simp only [if_true, if_neg c, Option.bind_some, List.nil_append, List.length_nil, Nat.zero_add, if_pos (show m0.length < 8796093022208 by omega), List.length_singleton, if_pos (show m0.length + 1 < 8796093022208 by omega)]
        exact hq
      have si : ∀ q, Ev (fun k => (impl_AreModules.f k (m0 ++ [(⟨a1_0, a1_1⟩ : S49)])).bind fun t123 => (if t123 = true then (some (m0 ++ [(⟨a1_0, a1_1⟩ : S49)], 0)) else (some (([] : List (S49)), 5)))) q → Ev (fun k => impl_AddModule.f k m0 a1_0 a1_1) q := fun q hq => by
        unfold impl_AddModule.f
        refine Ev.bind hi ?_
        simp only [if_true, if_neg c, Option.bind_some, List.nil_append, List.length_nil, Nat.zero_add, if_pos (show m0.length < 8796093022208 by omega), List.length_singleton, if_pos (show m0.length + 1 < 8796093022208 by omega)]
        exact hq
      by_cases g : PMods (m0 ++ [(⟨a1_0, a1_1⟩ : S49)])
      · rw [tt_pos g] at hs2 hi2
        exact fin (m0 ++ [(⟨a1_0, a1_1⟩ : S49)], 0) (by simp; omega) (ss _ (Ev.bind hs2 (by simp only [if_true]; exact Ev.now _))) (si _ (Ev.bind hi2 (by simp only [if_true]; exact Ev.now _)))
      · rw [tt_neg g] at hs2 hi2
        exact fin ([], 5) (by simp) (ss _ (Ev.bind hs2 (by simp only [Bool.false_eq_true, if_false]; exact Ev.now _))) (si _ (Ev.bind hi2 (by simp only [Bool.false_eq_true, if_false]; exact Ev.now _)))
  · rw [tt_neg h] at hs hi
    refine fin ([], 1) (by simp) ?_ ?_
    · unfold spec_AddModule.f
      refine Ev.bind hs ?_
      simp only [Bool.false_eq_true, if_false]
      exact Ev.now _
    · unfold impl_AddModule.f
      refine Ev.bind hi ?_
      simp only [Bool.false_eq_true, if_false]
      exact Ev.now _
end Go.Proofs.Ytdkibmdpipoioaa.Pure
