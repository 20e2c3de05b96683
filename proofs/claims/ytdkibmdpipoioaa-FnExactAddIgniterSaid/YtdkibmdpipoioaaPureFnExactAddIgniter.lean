/- The plain law of FnExactAddIgniter: what the printed functions compute, without Go and memory. No condition but the bounds that stand in it. -/
import Derived.Test.YtdkibmdpipoioaaPFnExactAddIgniterx0
import Derived.Test.YtdkibmdpipoioaaQFnExactAddIgnitera
import Derived.Test.YtdkibmdpipoioaaQFnExactAddIgniterb
import Derived.Test.YtdkibmdpipoioaaQFnExactAddIgniterc
import Derived.Test.YtdkibmdpipoioaaOpen
namespace Go.Proofs.Ytdkibmdpipoioaa.Pure
open Go.RowKit Go.Proofs.Ytdkibmdpipoioaa.PFnExactAddIgniter Go.Proofs.YtdkibmdpipoioaaW.PrintWords Go.Proofs.YtdkibmdpipoioaaW.PrintLast Go.Proofs.Ytdkibmdpipoioaa.Opening
set_option linter.unusedVariables false
set_option linter.unusedSimpArgs false
theorem w64 {n : Int} (h : -9223372036854775808 ≤ n ∧ n ≤ 9223372036854775807) : wrap64 n = n := by
  unfold wrap64
  omega
theorem l01In_eq (a b c : Int) : spec_l01In.f a b c = some (decide (b ≤ a ∧ a ≤ c)) := by
  unfold spec_l01In.f
  by_cases h : b ≤ a <;> simp [h]
theorem within_eq (a b c : Int) : impl_within.f a b c = some (decide (b ≤ a ∧ a ≤ c)) := by
  unfold impl_within.f
  by_cases h : b ≤ a <;> simp [h]
theorem drop_cons {α : Type} {l : List α} {i : Int} {a : α} {s : List α} (z : α) (h0 : 0 ≤ i) (h : l.drop i.toNat = a :: s) : i < l.length ∧ l.getD i.toNat z = a ∧ l.drop (i + 1).toNat = s := by
  have hlt : i.toNat < l.length := by
    rcases Nat.lt_or_ge i.toNat l.length with h1 | h1
    · exact h1
    · rw [List.drop_eq_nil_of_le h1] at h; cases h
  rw [List.drop_eq_getElem_cons hlt] at h
  injection h with h1 h2
  refine ⟨by omega, ?_, ?_⟩
  · rw [List.getD_eq_getElem?_getD, List.getElem?_eq_getElem hlt]; exact h1
  · rw [show (i + 1).toNat = i.toNat + 1 by omega]; exact h2
theorem drop_nil {α : Type} {l : List α} {i : Int} (h0 : 0 ≤ i) (h : l.drop i.toNat = []) : ¬ i < (l.length : Int) := by
  have := List.drop_eq_nil_iff.1 h
  omega
theorem Ev_shift {α : Type} {g : Nat → Option α} {r : α} (h : Ev (fun k => g (k + 1)) r) : Ev g r := Ev.step (fun _ => rfl) h
theorem Ev_both {α β : Type} {g : Nat → Option α} {f : Nat → Option β} {r : α} {q : β} (h1 : Ev g r) (h2 : Ev f q) : ∃ K, ∀ k, K ≤ k → g k = some r ∧ f k = some q := by
  obtain ⟨K, h1⟩ := h1
  obtain ⟨K', h2⟩ := h2
  exact ⟨max K K', fun k hk => ⟨h1 k (by omega), h2 k (by omega)⟩⟩
theorem Ev_eq {α : Type} {g : Nat → Option α} {r q : α} (h : Ev g r) (e : r = q) : Ev g q := e ▸ h
theorem Ev_some {α : Type} {r q : α} (e : r = q) : Ev (fun _ => some r) q := e ▸ Ev.now r
noncomputable def tt (p : Prop) : Bool := @decide p (Classical.propDecidable p)
theorem tt_pos {p : Prop} (h : p) : tt p = true := by unfold tt; exact @decide_eq_true p (Classical.propDecidable p) h
theorem tt_neg {p : Prop} (h : ¬ p) : tt p = false := by unfold tt; exact @decide_eq_false p (Classical.propDecidable p) h
theorem tt_dec (p : Prop) [i : Decidable p] : tt p = decide p := by
  by_cases h : p
  · rw [tt_pos h, decide_eq_true h]
  · rw [tt_neg h, decide_eq_false h]
theorem tt_iff {p q : Prop} (h : p ↔ q) : tt p = tt q := by rw [propext h]
theorem tt_and (p q : Prop) : (tt p && tt q) = tt (p ∧ q) := by
  by_cases h : p
  · rw [tt_pos h, Bool.true_and]; exact tt_iff ⟨fun x => ⟨h, x⟩, fun x => x.2⟩
  · rw [tt_neg h, Bool.false_and, tt_neg (fun x => h x.1)]
theorem tt_eq_true {p : Prop} : tt p = true ↔ p := by
  by_cases h : p
  · exact ⟨fun _ => h, fun _ => tt_pos h⟩
  · refine ⟨fun e => ?_, fun h' => absurd h' h⟩
    rw [tt_neg h] at e
    cases e
theorem allWithin_l0 (l : List Int) (hn : l.length ≤ 140737488351232) (a b : Int) : ∀ (s : List Int) (i : Int), 0 ≤ i → l.drop i.toNat = s → Ev (fun k => impl_allWithin.l0 k a b l l.length i) (decide (∀ x ∈ s, a ≤ x ∧ x ≤ b))
  | [], i, h0, h => by
    refine Ev_shift ?_
    simp only [impl_allWithin.l0, if_neg (drop_nil h0 h)]
    exact Ev_some (by simp)
  | c :: s, i, h0, h => by
    refine Ev_shift ?_
    obtain ⟨h1, h2, h3⟩ := drop_cons 0 h0 h
    have h2' : rd l i = c := h2
    simp only [impl_allWithin.l0, if_pos h1, if_pos h0, h2', within_eq, Option.bind_some, decide_eq_true_eq, w64 (n := i + 1) (by omega)]
    by_cases hc : a ≤ c ∧ c ≤ b
    · simp only [if_pos hc]
      refine Ev_eq (allWithin_l0 l hn a b s (i + 1) (by omega) h3) ?_
      exact decide_eq_decide.2 ⟨fun h x hx => by
        rcases List.mem_cons.1 hx with rfl | hx
        · exact hc
        · exact h x hx, fun h x hx => h x (by simp [hx])⟩
    · simp only [if_neg hc]
      exact Ev_some (decide_eq_false (fun h => hc (h c (by simp)))).symm
theorem allWithin_ev (l : List Int) (hn : l.length ≤ 140737488351232) (a b : Int) : Ev (fun k => impl_allWithin.f k l a b) (decide (∀ x ∈ l, a ≤ x ∧ x ≤ b)) := by
  unfold impl_allWithin.f
  exact allWithin_l0 l hn a b l 0 (by omega) rfl
/-- Circuits. -/
def PCirc (x : Int) (l : List Int) : Prop := (0 ≤ x ∧ x ≤ 100000) ∧ (1 ≤ l.length ∧ l.length ≤ 10) ∧ ∀ y ∈ l, 1 ≤ y ∧ y ≤ 100000
theorem spec_IsCircuit_l0 (x : Int) (l : List Int) (hn : l.length ≤ 140737488351232) : ∀ (s : List Int) (i : Int), 0 ≤ i → l.drop i.toNat = s → Ev (fun k => spec_IsCircuit.l0 k i x l) (tt ((∀ y ∈ s, 1 ≤ y ∧ y ≤ 100000) ∧ (0 ≤ x ∧ x ≤ 100000) ∧ (1 ≤ l.length ∧ l.length ≤ 10)))
  | [], i, h0, h => by
    refine Ev_shift ?_
    simp only [spec_IsCircuit.l0, if_neg (drop_nil h0 h), l01In_eq, Option.bind_some, decide_eq_true_eq]
    by_cases c : 0 ≤ x ∧ x ≤ 100000
    · simp only [if_pos c]
      refine Ev_some ?_
      rw [← tt_dec]
      exact tt_iff ⟨fun h => ⟨fun y hy => by simp at hy, c, by omega, by omega⟩, fun h => by have := h.2.2; omega⟩
    · simp only [if_neg c]
      exact Ev_some (tt_neg (fun h => c h.2.1)).symm
  | a :: s, i, h0, h => by
    refine Ev_shift ?_
    obtain ⟨h1, h2, h3⟩ := drop_cons 0 h0 h
    have h2' : rd l i = a := h2
    simp only [spec_IsCircuit.l0, if_pos h1, if_pos h0, h2', l01In_eq, Option.bind_some, decide_eq_true_eq, w64 (n := i + 1) (by omega)]
    by_cases c : 1 ≤ a ∧ a ≤ 100000
    · simp only [if_pos c]
      refine Ev_eq (spec_IsCircuit_l0 x l hn s (i + 1) (by omega) h3) (tt_iff ⟨fun h => ⟨fun y hy => ?_, h.2⟩, fun h => ⟨fun y hy => h.1 y (by simp [hy]), h.2⟩⟩)
      rcases List.mem_cons.1 hy with rfl | hy
      · exact c
      · exact h.1 y hy
    · simp only [if_neg c]
      exact Ev_some (tt_neg (fun h => c (h.1 a (by simp)))).symm
theorem spec_IsCircuit_ev (x : Int) (l : List Int) (hn : l.length ≤ 140737488351232) : Ev (fun k => spec_IsCircuit.f k x l) (tt (PCirc x l)) := by
  unfold spec_IsCircuit.f
  exact Ev_eq (spec_IsCircuit_l0 x l hn l 0 (by omega) rfl) (tt_iff ⟨fun h => ⟨h.2.1, h.2.2, h.1⟩, fun h => ⟨h.2.2, h.1, h.2.1⟩⟩)
theorem impl_IsCircuit_ev (x : Int) (l : List Int) (hn : l.length ≤ 140737488351232) : Ev (fun k => impl_IsCircuit.f k x l) (tt (PCirc x l)) := by
  unfold impl_IsCircuit.f
  simp only [impl_isLead.f, within_eq, Option.bind_some, decide_eq_true_eq]
  by_cases c : 0 ≤ x ∧ x ≤ 100000
  · simp only [if_pos c]
    by_cases c1 : (l.length : Int) ≥ 1
    · by_cases c2 : (l.length : Int) ≤ 10
      · simp only [if_pos c1, if_pos c2]
        refine Ev.bind (allWithin_ev l hn 1 100000) (Ev_some ?_)
        rw [← tt_dec]
        exact tt_iff ⟨fun h => ⟨c, ⟨by omega, by omega⟩, h⟩, fun h => h.2.2⟩
      · simp only [if_pos c1, if_neg c2]
        exact Ev_some (tt_neg (fun h => by have := h.2.1; omega)).symm
    · simp only [if_neg c1]
      exact Ev_some (tt_neg (fun h => by have := h.2.1; omega)).symm
  · simp only [if_neg c]
    exact Ev_some (tt_neg (fun h => c h.1)).symm
theorem agree_AddIgniter (m0_0 : Int) (m0_1 : List Int) (a1 : Int) (hn0_1 : m0_1.length ≤ 1000000) (hq0_0 : I64 m0_0) (hq0_1 : ∀ x ∈ m0_1, I64 x) (q1 : I64 a1) : ∃ (K : Nat) (r1_0 : Int) (r1_1 : List Int) (r2 : Int), r1_1.length ≤ 10000000 ∧ ∀ k, K ≤ k → spec_AddIgniter.f k m0_0 m0_1 a1 = some (r1_0, r1_1, r2) ∧ impl_AddIgniter.f k m0_0 m0_1 a1 = some (r1_0, r1_1, r2) := by
  have fin : ∀ q : Int × List Int × Int, q.2.1.length ≤ 10000000 → Ev (fun k => spec_AddIgniter.f k m0_0 m0_1 a1) q → Ev (fun k => impl_AddIgniter.f k m0_0 m0_1 a1) q → ∃ (K : Nat) (r1_0 : Int) (r1_1 : List Int) (r2 : Int), r1_1.length ≤ 10000000 ∧ ∀ k, K ≤ k → spec_AddIgniter.f k m0_0 m0_1 a1 = some (r1_0, r1_1, r2) ∧ impl_AddIgniter.f k m0_0 m0_1 a1 = some (r1_0, r1_1, r2) := by
    rintro ⟨x, y, z⟩ hq e1 e2
    obtain ⟨K, hk⟩ := Ev_both e1 e2
    exact ⟨K, x, y, z, hq, hk⟩
  have hs := spec_IsCircuit_ev m0_0 m0_1 (by omega)
  have hi := impl_IsCircuit_ev m0_0 m0_1 (by omega)
  by_cases h : PCirc m0_0 m0_1
  · rw [tt_pos h] at hs hi
    have hl := h.2.1
    by_cases c : 1 ≤ a1 ∧ a1 ≤ 100000
    · by_cases c2 : (m0_1.length : Int) = 10
      · refine fin (0, [], 3) (by simp) ?_ ?_
        · unfold spec_AddIgniter.f
          refine Ev.bind hs ?_
          simp only [if_true, l01In_eq, Option.bind_some, decide_eq_true_eq, if_pos c, if_pos c2, if_neg (show ¬ (3 : Int) = 0 by decide), if_neg (show ¬ (3 : Nat) = 0 by decide)]
          exact Ev.now _
        · unfold impl_AddIgniter.f
          refine Ev.bind hi ?_
          simp only [if_true, impl_isIgniter.f, within_eq, Option.bind_some, decide_eq_true_eq, if_pos c, if_pos c2]
          exact Ev.now _
      · refine fin (m0_0, m0_1 ++ [a1], 0) (by simp; omega) ?_ ?_
        · unfold spec_AddIgniter.f
          refine Ev.bind hs ?_
          simp only [if_true, l01In_eq, Option.bind_some, decide_eq_true_eq, if_pos c, if_neg c2, spec_l01Own.f, List.length_nil, Nat.zero_add, if_pos (show m0_1.length < 17592186044416 by omega), List.nil_append, List.length_singleton, if_pos (show m0_1.length + 1 < 17592186044416 by omega)]
          exact Ev.now _
        · unfold impl_AddIgniter.f
          refine Ev.bind hi ?_
          simp only [if_true, impl_isIgniter.f, within_eq, Option.bind_some, decide_eq_true_eq, if_pos c, if_neg c2, impl_copyList.f, List.length_nil, Nat.zero_add, if_pos (show m0_1.length < 17592186044416 by omega), List.nil_append, List.length_singleton, if_pos (show m0_1.length + 1 < 17592186044416 by omega)]
          exact Ev.now _
    · refine fin (0, [], 2) (by simp) ?_ ?_
      · unfold spec_AddIgniter.f
        refine Ev.bind hs ?_
        simp only [if_true, l01In_eq, Option.bind_some, decide_eq_true_eq, if_neg c, if_neg (show ¬ (2 : Int) = 0 by decide), if_neg (show ¬ (2 : Nat) = 0 by decide)]
        exact Ev.now _
      · unfold impl_AddIgniter.f
        refine Ev.bind hi ?_
        simp only [if_true, impl_isIgniter.f, within_eq, Option.bind_some, decide_eq_true_eq, if_neg c]
        exact Ev.now _
  · rw [tt_neg h] at hs hi
    refine fin (0, [], 1) (by simp) ?_ ?_
    · unfold spec_AddIgniter.f
      refine Ev.bind hs ?_
      simp only [Bool.false_eq_true, if_false, if_neg (show ¬ (1 : Int) = 0 by decide), if_neg (show ¬ (1 : Nat) = 0 by decide)]
      exact Ev.now _
    · unfold impl_AddIgniter.f
      refine Ev.bind hi ?_
      simp only [Bool.false_eq_true, if_false]
      exact Ev.now _
end Go.Proofs.Ytdkibmdpipoioaa.Pure
