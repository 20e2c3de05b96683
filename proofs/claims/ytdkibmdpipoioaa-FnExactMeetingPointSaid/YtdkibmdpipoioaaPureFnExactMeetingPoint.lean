/- The plain law of FnExactMeetingPoint: what the printed functions compute, without Go and memory. No condition but the bounds that stand in it. -/
import Derived.Test.YtdkibmdpipoioaaPFnExactMeetingPointx0
import Derived.Test.YtdkibmdpipoioaaQFnExactMeetingPointa
import Derived.Test.YtdkibmdpipoioaaQFnExactMeetingPointb
import Derived.Test.YtdkibmdpipoioaaQFnExactMeetingPointc
import Derived.Test.YtdkibmdpipoioaaOpen
namespace Go.Proofs.Ytdkibmdpipoioaa.Pure
open Go.RowKit Go.Proofs.Ytdkibmdpipoioaa.PFnExactMeetingPoint Go.Proofs.YtdkibmdpipoioaaW.PrintWords Go.Proofs.YtdkibmdpipoioaaW.PrintLast Go.Proofs.Ytdkibmdpipoioaa.Opening
set_option linter.unusedVariables false
set_option linter.unusedSimpArgs false
theorem w64 {n : Int} (h : -9223372036854775808 ≤ n ∧ n ≤ 9223372036854775807) : wrap64 n = n := by
  unfold wrap64
  omega
theorem l01In_eq (a b c : Int) : spec_l01In.f a b c = some (decide (b ≤ a ∧ a ≤ c)) := by
  unfold spec_l01In.f
  by_cases h : b ≤ a <;> simp [h]
theorem within_eq (a b c : Int) : impl_within.f a b c = some (decide (b ≤ a ∧ a ≤ c)) := by
  unfold impl_within.f
  by_cases h : b ≤ a <;> simp [h]
theorem drop_cons {α : Type} {l : List α} {i : Int} {a : α} {s : List α} (z : α) (h0 : 0 ≤ i) (h : l.drop i.toNat = a :: s) : i < l.length ∧ l.getD i.toNat z = a ∧ l.drop (i + 1).toNat = s := by
  have hlt : i.toNat < l.length := by
    rcases Nat.lt_or_ge i.toNat l.length with h1 | h1
    · exact h1
    · rw [List.drop_eq_nil_of_le h1] at h; cases h
  rw [List.drop_eq_getElem_cons hlt] at h
  injection h with h1 h2
  refine ⟨by omega, ?_, ?_⟩
  · rw [List.getD_eq_getElem?_getD, List.getElem?_eq_getElem hlt]; exact h1
  · rw [show (i + 1).toNat = i.toNat + 1 by omega]; exact h2
theorem drop_nil {α : Type} {l : List α} {i : Int} (h0 : 0 ≤ i) (h : l.drop i.toNat = []) : ¬ i < (l.length : Int) := by
  have := List.drop_eq_nil_iff.1 h
  omega
theorem Ev_shift {α : Type} {g : Nat → Option α} {r : α} (h : Ev (fun k => g (k + 1)) r) : Ev g r := Ev.step (fun _ => rfl) h
theorem Ev_both {α β : Type} {g : Nat → Option α} {f : Nat → Option β} {r : α} {q : β} (h1 : Ev g r) (h2 : Ev f q) : ∃ K, ∀ k, K ≤ k → g k = some r ∧ f k = some q := by
  obtain ⟨K, h1⟩ := h1
  obtain ⟨K', h2⟩ := h2
  exact ⟨max K K', fun k hk => ⟨h1 k (by omega), h2 k (by omega)⟩⟩
theorem Ev_eq {α : Type} {g : Nat → Option α} {r q : α} (h : Ev g r) (e : r = q) : Ev g q := e ▸ h
theorem Ev_some {α : Type} {r q : α} (e : r = q) : Ev (fun _ => some r) q := e ▸ Ev.now r
noncomputable def tt (p : Prop) : Bool := @decide p (Classical.propDecidable p)
theorem tt_pos {p : Prop} (h : p) : tt p = true := by unfold tt; exact @decide_eq_true p (Classical.propDecidable p) h
theorem tt_neg {p : Prop} (h : ¬ p) : tt p = false := by unfold tt; exact @decide_eq_false p (Classical.propDecidable p) h
theorem tt_dec (p : Prop) [i : Decidable p] : tt p = decide p := by
  by_cases h : p
  · rw [tt_pos h, decide_eq_true h]
  · rw [tt_neg h, decide_eq_false h]
theorem tt_iff {p q : Prop} (h : p ↔ q) : tt p = tt q := by rw [propext h]
theorem tt_and (p q : Prop) : (tt p && tt q) = tt (p ∧ q) := by
  by_cases h : p
  · rw [tt_pos h, Bool.true_and]; exact tt_iff ⟨fun x => ⟨h, x⟩, fun x => x.2⟩
  · rw [tt_neg h, Bool.false_and, tt_neg (fun x => h x.1)]
theorem tt_eq_true {p : Prop} : tt p = true ↔ p := by
  by_cases h : p
  · exact ⟨fun _ => h, fun _ => tt_pos h⟩
  · refine ⟨fun e => ?_, fun h' => absurd h' h⟩
    rw [tt_neg h] at e
    cases e
theorem ev_all {L : Int → Nat → Option Bool} {P : Int → Prop} {n : Int} {fin : Bool} (h1 : ∀ i, 0 ≤ i → i < n → P i → ∀ r, Ev (L (i + 1)) r → Ev (L i) r) (h2 : ∀ i, 0 ≤ i → i < n → ¬ P i → Ev (L i) false) (h3 : Ev (L n) fin) :
    ∀ (d : Nat) (i : Int), 0 ≤ i → i + d = n → Ev (L i) (fin && tt (∀ j, i ≤ j → j < n → P j))
  | 0, i, h0, hd => by
    have e : i = n := by omega
    rw [e, tt_pos (fun j h1 h2 => by omega), Bool.and_true]
    exact h3
  | d + 1, i, h0, hd => by
    by_cases hp : P i
    · have := h1 i h0 (by omega) hp _ (ev_all h1 h2 h3 d (i + 1) (by omega) (by omega))
      refine Ev_eq this ?_
      congr 1
      exact tt_iff ⟨fun h j h1 h2 => by
        by_cases e : j = i
        · rw [e]; exact hp
        · exact h j (by omega) h2, fun h j h1 h2 => h j (by omega) h2⟩
    · rw [tt_neg (fun h => hp (h i (Int.le_refl _) (by omega))), Bool.and_false]
      exact h2 i h0 (by omega) hp
/-- A module's own numbers are right at its place. -/
def PM (l : List S49) (i : Int) : Prop := 0 ≤ (rd_T49 l i).f1 ∧ (rd_T49 l i).f1 ≤ 32 ∧ (i = 0 → (rd_T49 l i).f0 = -1) ∧ (0 < i → 0 ≤ (rd_T49 l i).f0 ∧ (rd_T49 l i).f0 ≤ i - 1)
def PMods (l : List S49) : Prop := 1 ≤ l.length ∧ l.length ≤ 12 ∧ ∀ j : Int, 0 ≤ j → j < l.length → PM l j
theorem spec_AreModules_ev (l : List S49) (hn : l.length ≤ 140737488351232) : Ev (fun k => spec_AreModules.f k l) (tt (PMods l)) := by
  unfold spec_AreModules.f
  have := ev_all (L := fun i k => spec_AreModules.l0 k l i) (P := PM l) (n := l.length) (fin := decide (1 ≤ l.length ∧ l.length ≤ 12)) (fun i h0 h1 hp r hr => ?_) (fun i h0 h1 hp => ?_) ?_ l.length 0 (by omega) (by omega)
  · refine Ev_eq this ?_
    rw [← tt_dec, tt_and]
    exact tt_iff ⟨fun h => ⟨h.1.1, h.1.2, fun j h0 h1 => h.2 j h0 h1⟩, fun h => ⟨⟨h.1, h.2.1⟩, fun j h0 h1 => h.2.2 j h0 h1⟩⟩
  · refine Ev_shift ?_
    unfold PM at hp
    simp only [spec_AreModules.l0, if_pos h1, if_pos h0, l01In_eq, Option.bind_some]
    simp only [decide_eq_true_eq]
    simp only [if_pos (And.intro hp.1 hp.2.1)]
    rw [w64 (n := i + 1) (by omega)]
    by_cases h : i = 0
    · simp only [if_pos h, if_pos (hp.2.2.1 h), if_neg (show ¬ i > 0 by omega)]
      exact hr
    · simp only [if_neg h, if_pos (show i > 0 by omega), w64 (n := i - 1) (by omega)]
      have := hp.2.2.2 (by omega)
      simp only [if_pos this]
      exact hr
  · refine Ev_shift ?_
    unfold PM at hp
    simp only [spec_AreModules.l0, if_pos h1, if_pos h0, l01In_eq, Option.bind_some]
    simp only [decide_eq_true_eq]
    by_cases hq : 0 ≤ (rd_T49 l i).f1 ∧ (rd_T49 l i).f1 ≤ 32
    · simp only [if_pos hq]
      by_cases h : i = 0
      · by_cases h2 : (rd_T49 l i).f0 = -1
        · exact absurd ⟨hq.1, hq.2, fun _ => h2, fun h => by omega⟩ hp
        · simp only [if_pos h, if_neg h2]
          exact Ev.now _
      · simp only [if_neg h, if_pos (show i > 0 by omega), w64 (n := i - 1) (by omega)]
        by_cases h2 : 0 ≤ (rd_T49 l i).f0 ∧ (rd_T49 l i).f0 ≤ i - 1
        · exact absurd ⟨hq.1, hq.2, fun h => by omega, fun _ => h2⟩ hp
        · simp only [if_neg h2]
          exact Ev.now _
    · simp only [if_neg hq]
      exact Ev.now _
  · refine Ev_shift ?_
    simp only [spec_AreModules.l0, if_neg (show ¬ (l.length : Int) < l.length by omega), l01In_eq, Option.bind_some]
    exact Ev_some (by congr 1; exact propext ⟨fun h => by omega, fun h => by omega⟩)
theorem impl_AreModules_l0 (l : List S49) (hn : l.length ≤ 140737488351232) (hz : (rd_T49 l 0).f0 = -1) : Ev (fun k => impl_AreModules.l0 k l l.length 0) (tt (∀ j : Int, 0 ≤ j → j < l.length → PM l j)) := by
  have := ev_all (L := fun i k => impl_AreModules.l0 k l l.length i) (P := PM l) (n := l.length) (fin := true) (fun i h0 h1 hp r hr => ?_) (fun i h0 h1 hp => ?_) ?_ l.length 0 (by omega) (by omega)
  · refine Ev_eq this ?_
    rw [Bool.true_and]
  · refine Ev_shift ?_
    unfold PM at hp
    simp only [impl_AreModules.l0, if_pos h1, if_pos h0, within_eq, Option.bind_some]
    simp only [decide_eq_true_eq]
    simp only [if_pos (And.intro hp.1 hp.2.1)]
    rw [w64 (n := i + 1) (by omega)]
    by_cases h : i = 0
    · simp only [if_neg (show ¬ i > 0 by omega)]
      exact hr
    · simp only [if_pos (show i > 0 by omega), w64 (n := i - 1) (by omega)]
      have := hp.2.2.2 (by omega)
      simp only [if_pos this]
      exact hr
  · refine Ev_shift ?_
    unfold PM at hp
    simp only [impl_AreModules.l0, if_pos h1, if_pos h0, within_eq, Option.bind_some]
    simp only [decide_eq_true_eq]
    by_cases hq : 0 ≤ (rd_T49 l i).f1 ∧ (rd_T49 l i).f1 ≤ 32
    · simp only [if_pos hq]
      by_cases h : i = 0
      · exact absurd ⟨hq.1, hq.2, fun h => by rw [h]; exact hz, fun h => by omega⟩ hp
      · simp only [if_pos (show i > 0 by omega), w64 (n := i - 1) (by omega)]
        by_cases h2 : 0 ≤ (rd_T49 l i).f0 ∧ (rd_T49 l i).f0 ≤ i - 1
        · exact absurd ⟨hq.1, hq.2, fun h => by omega, fun _ => h2⟩ hp
        · simp only [if_neg h2]
          exact Ev.now _
    · simp only [if_neg hq]
      exact Ev.now _
  · refine Ev_shift ?_
    simp only [impl_AreModules.l0, if_neg (show ¬ (l.length : Int) < l.length by omega)]
    exact Ev.now _
theorem impl_AreModules_ev (l : List S49) (hn : l.length ≤ 140737488351232) : Ev (fun k => impl_AreModules.f k l) (tt (PMods l)) := by
  unfold impl_AreModules.f
  have bad : ∀ {q : Prop}, ¬ q → (q ↔ PMods l) → Ev (fun k => impl_AreModules.j0 k l true) (tt (PMods l)) := by
    intro q hq e
    refine Ev_shift ?_
    simp only [impl_AreModules.j0, if_true]
    exact Ev_some (tt_neg (fun h => hq (e.2 h))).symm
  by_cases h1 : (l.length : Int) < 1
  · simp only [if_pos h1]
    exact bad (q := False) (fun h => h) ⟨fun h => h.elim, fun h => by have := h.1; omega⟩
  · simp only [if_neg h1]
    by_cases h2 : (l.length : Int) > 12
    · simp only [if_pos h2]
      exact bad (q := False) (fun h => h) ⟨fun h => h.elim, fun h => by have := h.2.1; omega⟩
    · simp only [if_neg h2, if_pos (show 0 < (l.length : Int) by omega)]
      by_cases hz : (rd_T49 l 0).f0 = -1
      · rw [hz]
        refine Ev_shift ?_
        simp only [impl_AreModules.j0, bne_self_eq_false, Bool.false_eq_true, if_false]
        refine Ev_eq (impl_AreModules_l0 l hn hz) (tt_iff ⟨fun h => ⟨by omega, by omega, h⟩, fun h => h.2.2⟩)
      · have e : ((rd_T49 l 0).f0 != -1) = true := by simpa using hz
        rw [e]
        exact bad (q := False) (fun h => h) ⟨fun h => h.elim, fun h => hz ((h.2.2 0 (by omega) (by omega)).2.2.1 rfl)⟩
theorem parent_lt {l : List S49} (h : PMods l) {m : Int} (h0 : 0 ≤ m) (h1 : m < l.length) : -1 ≤ (rd_T49 l m).f0 ∧ (rd_T49 l m).f0 < m := by
  have := h.2.2 m h0 h1
  unfold PM at this
  by_cases e : m = 0
  · have := this.2.2.1 e
    omega
  · have := this.2.2.2 (by omega)
    omega
/-- A module and all above it. -/
def wayF (l : List S49) : Nat → Int → List Int
  | 0, _ => []
  | n + 1, m => if 0 ≤ m then m :: wayF l n (rd_T49 l m).f0 else []
theorem wayF_length (l : List S49) : ∀ (n : Nat) (m : Int), (wayF l n m).length ≤ n
  | 0, _ => Nat.le_refl _
  | n + 1, m => by
    unfold wayF
    split
    · simp only [List.length_cons]
      have := wayF_length l n (rd_T49 l m).f0
      omega
    · simp
theorem spec_way_l0 {l : List S49} (h : PMods l) : ∀ (n : Nat) (m : Int) (out : List Int), -1 ≤ m → m < l.length → m + 1 ≤ n → out.length + n ≤ 1000 → Ev (fun k => spec_l12Way.l0 k l m out) (out ++ wayF l n m)
  | 0, m, out, h0, h1, h2, h3 => by
    refine Ev_shift ?_
    simp only [spec_l12Way.l0, if_neg (show ¬ m ≥ 0 by omega)]
    exact Ev_some (by simp [wayF])
  | n + 1, m, out, h0, h1, h2, h3 => by
    refine Ev_shift ?_
    by_cases hm : m ≥ 0
    · have hp := parent_lt h hm h1
      simp only [spec_l12Way.l0, if_pos hm, if_pos (show out.length < 17592186044416 by omega), if_pos (show 0 ≤ m from hm), if_pos h1]
      refine Ev_eq (spec_way_l0 h n _ (out ++ [m]) hp.1 (by omega) (by omega) (by simp; omega)) ?_
      simp [wayF, hm]
    · simp only [spec_l12Way.l0, if_neg hm]
      exact Ev_some (by simp [wayF, show ¬ 0 ≤ m from hm])
theorem spec_way {l : List S49} (h : PMods l) {m : Int} (h0 : 0 ≤ m) (h1 : m < l.length) : Ev (fun k => spec_l12Way.f k l m) (wayF l 12 m) := by
  unfold spec_l12Way.f
  have := h.2.1
  exact spec_way_l0 h 12 m [] (by omega) h1 (by omega) (by simp)
theorem spec_l12Code_ev (l : List S49) (hn : l.length ≤ 140737488351232) (m : Int) : (PMods l → 0 ≤ m → m < l.length → Ev (fun k => spec_l12Code.f k l m) 0) ∧ (PMods l → ¬ (0 ≤ m ∧ m < l.length) → Ev (fun k => spec_l12Code.f k l m) 2) ∧ (¬ PMods l → Ev (fun k => spec_l12Code.f k l m) 1) := by
  unfold spec_l12Code.f
  have w : wrap64 ((l.length : Int) - 1) = (l.length : Int) - 1 := w64 (by omega)
  refine ⟨fun h h0 h1 => ?_, fun h hm => ?_, fun h => ?_⟩
  · refine Ev.bind (spec_AreModules_ev l hn) ?_
    simp only [tt_pos h, if_true, w, l01In_eq, Option.bind_some, decide_eq_true_eq, if_pos (show 0 ≤ m ∧ m ≤ (l.length : Int) - 1 by omega)]
    exact Ev.now _
  · refine Ev.bind (spec_AreModules_ev l hn) ?_
    simp only [tt_pos h, if_true, w, l01In_eq, Option.bind_some, decide_eq_true_eq, if_neg (show ¬ (0 ≤ m ∧ m ≤ (l.length : Int) - 1) by omega)]
    exact Ev.now _
  · refine Ev.bind (spec_AreModules_ev l hn) ?_
    simp only [tt_neg h, Bool.false_eq_true, if_false]
    exact Ev.now _
theorem isIndex_eq {a n : Int} (hn : 0 ≤ n ∧ n ≤ 140737488351232) : impl_isIndex.f a n = some (decide (0 ≤ a ∧ a < n)) := by
  unfold impl_isIndex.f
  rw [w64 (by omega), within_eq, Option.bind_some]
  congr 1
  exact decide_eq_decide.2 ⟨fun h => by omega, fun h => by omega⟩
theorem asked_l0 (l : List S49) (hn : l.length ≤ 140737488351232) (xs : List Int) (hx : xs.length ≤ 140737488351232) : ∀ (s : List Int) (i : Int), 0 ≤ i → xs.drop i.toNat = s → Ev (fun k => impl_moduleAsked.l0 k l xs xs.length i) (if ∀ x ∈ s, 0 ≤ x ∧ x < (l.length : Int) then 0 else 2)
  | [], i, h0, h => by
    refine Ev_shift ?_
    simp only [impl_moduleAsked.l0, if_neg (drop_nil h0 h)]
    exact Ev_some (by simp)
  | a :: s, i, h0, h => by
    refine Ev_shift ?_
    obtain ⟨h1, h2, h3⟩ := drop_cons 0 h0 h
    have h2' : rd xs i = a := h2
    simp only [impl_moduleAsked.l0, if_pos h1, if_pos h0, h2', isIndex_eq (n := (l.length : Int)) (by omega), Option.bind_some, decide_eq_true_eq, w64 (n := i + 1) (by omega)]
    by_cases c : 0 ≤ a ∧ a < (l.length : Int)
    · simp only [if_pos c]
      refine Ev_eq (asked_l0 l hn xs hx s (i + 1) (by omega) h3) ?_
      simp only [List.mem_cons, forall_eq_or_imp, c, true_and]
    · simp only [if_neg c]
      refine Ev_some ?_
      rw [if_neg (fun hh => c (hh a (by simp)))]
theorem impl_moduleAsked_ev (l : List S49) (hn : l.length ≤ 140737488351232) (xs : List Int) (hx : xs.length ≤ 140737488351232) : (PMods l → (∀ x ∈ xs, 0 ≤ x ∧ x < (l.length : Int)) → Ev (fun k => impl_moduleAsked.f k l xs) 0) ∧ (PMods l → ¬ (∀ x ∈ xs, 0 ≤ x ∧ x < (l.length : Int)) → Ev (fun k => impl_moduleAsked.f k l xs) 2) ∧ (¬ PMods l → Ev (fun k => impl_moduleAsked.f k l xs) 1) := by
  unfold impl_moduleAsked.f
  have h0 := asked_l0 l hn xs hx xs 0 (by omega) rfl
  refine ⟨fun h hm => ?_, fun h hm => ?_, fun h => ?_⟩
  · refine Ev.bind (impl_AreModules_ev l hn) ?_
    simp only [tt_pos h, if_true]
    exact Ev_eq h0 (if_pos hm)
  · refine Ev.bind (impl_AreModules_ev l hn) ?_
    simp only [tt_pos h, if_true]
    exact Ev_eq h0 (if_neg hm)
  · refine Ev.bind (impl_AreModules_ev l hn) ?_
    simp only [tt_neg h, Bool.false_eq_true, if_false]
    exact Ev.now _
/-- The first module on both ways. -/
def meetF (l : List S49) : Nat → Int → Int → Int
  | 0, a, _ => a
  | n + 1, a, b => if a = b then a else if a > b then meetF l n (rd_T49 l a).f0 b else meetF l n a (rd_T49 l b).f0
theorem meetF_succ (l : List S49) (n : Nat) (a b : Int) : meetF l (n + 1) a b = if a = b then a else if a > b then meetF l n (rd_T49 l a).f0 b else meetF l n a (rd_T49 l b).f0 := rfl
theorem way_le {l : List S49} (h : PMods l) : ∀ (n : Nat) (m x : Int), -1 ≤ m → m < l.length → x ∈ wayF l n m → 0 ≤ x ∧ x ≤ m
  | 0, m, x, h0, h1, hx => by simp [wayF] at hx
  | n + 1, m, x, h0, h1, hx => by
    unfold wayF at hx
    split at hx
    · rename_i hm
      have hp := parent_lt h hm h1
      rcases List.mem_cons.1 hx with e | hx
      · omega
      · have := way_le h n _ x hp.1 (by omega) hx
        omega
    · simp at hx
theorem way_mem_step {l : List S49} (h : PMods l) {n : Nat} {m x : Int} (h0 : 0 ≤ m) (h1 : m < l.length) : x ∈ wayF l (n + 1) m ↔ x = m ∨ x ∈ wayF l n (rd_T49 l m).f0 := by
  show x ∈ (if 0 ≤ m then m :: wayF l n (rd_T49 l m).f0 else []) ↔ _
  rw [if_pos h0]
  simp
theorem way_more {l : List S49} (h : PMods l) : ∀ (n k : Nat) (m : Int), -1 ≤ m → m < l.length → m + 1 ≤ n → n ≤ k → wayF l k m = wayF l n m
  | 0, 0, m, _, _, _, _ => rfl
  | 0, k + 1, m, h0, h1, h2, h3 => by
    unfold wayF
    rw [if_neg (by omega)]
  | n + 1, 0, m, h0, h1, h2, h3 => by omega
  | n + 1, k + 1, m, h0, h1, h2, h3 => by
    unfold wayF
    split
    · rename_i hm
      have hp := parent_lt h hm h1
      rw [way_more h n k _ hp.1 (by omega) (by omega) (by omega)]
    · rfl
theorem zero_mem {l : List S49} (h : PMods l) : ∀ (n : Nat) (m : Int), 0 ≤ m → m < l.length → m + 1 ≤ n → 0 ∈ wayF l n m
  | 0, m, h0, h1, h2 => by omega
  | n + 1, m, h0, h1, h2 => by
    rw [way_mem_step h h0 h1]
    by_cases e : m = 0
    · exact .inl e.symm
    · have hp := h.2.2 m h0 h1
      unfold PM at hp
      have := hp.2.2.2 (by omega)
      exact .inr (zero_mem h n _ this.1 (by omega) (by omega))
/-- Where the first is on the second's way, there they meet; else the first goes up. -/
theorem meet_way {l : List S49} (h : PMods l) : ∀ (n : Nat) (a b : Int), 0 ≤ a → a < l.length → 0 ≤ b → b < l.length → a + b + 1 ≤ n →
    (a ∈ wayF l 12 b → meetF l n a b = a) ∧ (a ∉ wayF l 12 b → 0 < a ∧ meetF l n a b = meetF l (n - 1) (rd_T49 l a).f0 b)
  | 0, a, b, a0, a1, b0, b1, hn => by omega
  | n + 1, a, b, a0, a1, b0, b1, hn => by
    have hl := h.2.1
    have hz := zero_mem h 12 b b0 b1 (by omega)
    have hw : ∀ x, x ∈ wayF l 12 b ↔ x = b ∨ x ∈ wayF l 12 (rd_T49 l b).f0 := by
      intro x
      have hp := parent_lt h b0 b1
      rw [way_more h 12 13 (rd_T49 l b).f0 hp.1 (by omega) (by omega) (by omega) |>.symm, ← way_more h 12 14 b (by omega) b1 (by omega) (by omega)]
      exact way_mem_step h b0 b1
    rw [meetF_succ l n a b]
    by_cases e : a = b
    · rw [if_pos e]
      exact ⟨fun _ => rfl, fun hm => absurd ((hw a).2 (.inl e)) hm⟩
    · rw [if_neg e]
      by_cases g : a > b
      · rw [if_pos g]
        refine ⟨fun hm => ?_, fun hm => ⟨by omega, by simp⟩⟩
        have := way_le h 12 b a (by omega) b1 hm
        omega
      · rw [if_neg g]
        have hp := parent_lt h b0 b1
        have hq := (h.2.2 b b0 b1).2.2.2 (by omega)
        have ih := meet_way h n a (rd_T49 l b).f0 a0 a1 hq.1 (by omega) (by omega)
        refine ⟨fun hm => ih.1 (((hw a).1 hm).resolve_left e), fun hm => ?_⟩
        have hm' : a ∉ wayF l 12 (rd_T49 l b).f0 := fun hx => hm ((hw a).2 (.inr hx))
        obtain ⟨ha, e2⟩ := ih.2 hm'
        refine ⟨ha, ?_⟩
        rw [e2]
        have pa := parent_lt h a0 a1
        simp only [Nat.add_sub_cancel]
        obtain ⟨n', rfl⟩ : ∃ m, n = m + 1 := ⟨n - 1, by omega⟩
        simp only [Nat.add_sub_cancel]
        rw [meetF_succ l n' _ b, if_neg (by omega), if_neg (by omega)]
theorem impl_meet {l : List S49} (h : PMods l) : ∀ (n : Nat) (a b : Int), 0 ≤ a → a < l.length → 0 ≤ b → b < l.length → a + b + 1 ≤ n → Ev (fun k => impl_MeetingPoint.l0 k l a b) (meetF l n a b, 0)
  | 0, a, b, a0, a1, b0, b1, hn => by omega
  | n + 1, a, b, a0, a1, b0, b1, hn => by
    refine Ev_shift ?_
    unfold meetF
    by_cases e : a = b
    · simp only [impl_MeetingPoint.l0, if_pos e]
      exact Ev.now _
    · by_cases g : a > b
      · have hq := (h.2.2 a a0 a1).2.2.2 (by omega)
        simp only [impl_MeetingPoint.l0, if_neg e, if_pos g, if_pos a0, if_pos a1]
        exact impl_meet h n _ b hq.1 (by omega) b0 b1 (by omega)
      · have hq := (h.2.2 b b0 b1).2.2.2 (by omega)
        simp only [impl_MeetingPoint.l0, if_neg e, if_neg g, if_pos b0, if_pos b1]
        exact impl_meet h n a _ a0 a1 hq.1 (by omega) (by omega)
theorem has_l0 (l : List Int) (hn : l.length ≤ 140737488351232) (x : Int) : ∀ (s : List Int) (i : Int), 0 ≤ i → l.drop i.toNat = s → Ev (fun k => spec_l01Has.l0 k l x i) (decide (x ∈ s))
  | [], i, h0, h => by
    refine Ev_shift ?_
    simp only [spec_l01Has.l0, if_neg (drop_nil h0 h)]
    exact Ev_some (by simp)
  | a :: s, i, h0, h => by
    refine Ev_shift ?_
    obtain ⟨h1, h2, h3⟩ := drop_cons 0 h0 h
    have h2' : rd l i = a := h2
    by_cases e : a = x
    · simp only [spec_l01Has.l0, if_pos h1, if_pos h0, h2', if_pos e]
      exact Ev_some (by simp [e])
    · simp only [spec_l01Has.l0, if_pos h1, if_pos h0, h2', if_neg e, w64 (n := i + 1) (by omega)]
      refine Ev_eq (has_l0 l hn x s (i + 1) (by omega) h3) ?_
      simp [Ne.symm e]
theorem has_ev (l : List Int) (hn : l.length ≤ 140737488351232) (x : Int) : Ev (fun k => spec_l01Has.f k l x) (decide (x ∈ l)) := by
  unfold spec_l01Has.f
  exact has_l0 l hn x l 0 (by omega) rfl
theorem spec_meet {l : List S49} (h : PMods l) : ∀ (n : Nat) (a b : Int), 0 ≤ a → a < l.length → 0 ≤ b → b < l.length → a + b + 1 ≤ n → Ev (fun k => spec_MeetingPoint.l0 k l a (wayF l 12 b)) (meetF l n a b, 0)
  | 0, a, b, a0, a1, b0, b1, hn => by omega
  | n + 1, a, b, a0, a1, b0, b1, hn => by
    have hm := meet_way h (n + 1) a b a0 a1 b0 b1 hn
    refine Ev_shift ?_
    simp only [spec_MeetingPoint.l0]
    have hwl := wayF_length l 12 b
    by_cases hx : a ∈ wayF l 12 b
    · rw [hm.1 hx]
      refine Ev.bind (has_ev (wayF l 12 b) (by omega) a) ?_
      simp only [decide_eq_true hx, if_true]
      exact Ev.now _
    · obtain ⟨ha, e⟩ := hm.2 hx
      rw [e]
      refine Ev.bind (has_ev (wayF l 12 b) (by omega) a) ?_
      have hq := (h.2.2 a a0 a1).2.2.2 ha
      simp only [decide_eq_false hx, Bool.false_eq_true, if_false, if_pos a0, if_pos a1]
      exact spec_meet h n _ b hq.1 (by omega) b0 b1 (by omega)
theorem agree_MeetingPoint (m0 : List S49) (a1 : Int) (a2 : Int) (hn0 : m0.length ≤ 1000000) (hq0 : ∀ x ∈ m0, (I64 x.f0 ∧ I64 x.f1)) (q1 : I64 a1) (q2 : I64 a2) : ∃ (K : Nat) (r1 : Int) (r2 : Int), ∀ k, K ≤ k → spec_MeetingPoint.f k m0 a1 a2 = some (r1, r2) ∧ impl_MeetingPoint.f k m0 a1 a2 = some (r1, r2) := by
  have hs1 := spec_l12Code_ev m0 (by omega) a1
  have hs2 := spec_l12Code_ev m0 (by omega) a2
  have hi := impl_moduleAsked_ev m0 (by omega) [a1, a2] (by simp)
  have bad : ∀ c, c ≠ 0 → Ev (fun k => spec_MeetingPoint.j0 k m0 a1 a2 c) ((0 : Int), c) := fun c hc => by
    refine Ev_shift ?_
    simp only [spec_MeetingPoint.j0, if_neg hc]
    exact Ev.now _
  have fin : ∀ q : Int × Int, Ev (fun k => spec_MeetingPoint.f k m0 a1 a2) q → Ev (fun k => impl_MeetingPoint.f k m0 a1 a2) q → ∃ (K : Nat) (r1 : Int) (r2 : Int), ∀ k, K ≤ k → spec_MeetingPoint.f k m0 a1 a2 = some (r1, r2) ∧ impl_MeetingPoint.f k m0 a1 a2 = some (r1, r2) := by
    rintro ⟨x, y⟩ e1 e2
    obtain ⟨K, hk⟩ := Ev_both e1 e2
    exact ⟨K, x, y, hk⟩
  by_cases h : PMods m0
  · by_cases h1 : 0 ≤ a1 ∧ a1 < m0.length
    · by_cases h2 : 0 ≤ a2 ∧ a2 < m0.length
      · refine fin (meetF m0 (a1 + a2 + 1).toNat a1 a2, 0) ?_ ?_
        · unfold spec_MeetingPoint.f
          refine Ev.bind (hs1.1 h h1.1 h1.2) ?_
          simp only [if_true]
          refine Ev.bind (hs2.1 h h2.1 h2.2) (Ev_shift ?_)
          simp only [spec_MeetingPoint.j0, if_true]
          exact Ev.bind (spec_way h h2.1 h2.2) (spec_meet h _ a1 a2 h1.1 h1.2 h2.1 h2.2 (by omega))
        · unfold impl_MeetingPoint.f
          refine Ev.bind (hi.1 h (by simpa using ⟨h1, h2⟩)) ?_
          simp only [if_true]
          exact impl_meet h _ a1 a2 h1.1 h1.2 h2.1 h2.2 (by omega)
      · refine fin (0, 2) ?_ ?_
        · unfold spec_MeetingPoint.f
          refine Ev.bind (hs1.1 h h1.1 h1.2) ?_
          simp only [if_true]
          exact Ev.bind (hs2.2.1 h h2) (bad 2 (by omega))
        · unfold impl_MeetingPoint.f
          exact Ev.bind (hi.2.1 h (by intro hx; exact h2 (hx a2 (by simp)))) (Ev.now _)
    · refine fin (0, 2) ?_ ?_
      · unfold spec_MeetingPoint.f
        exact Ev.bind (hs1.2.1 h h1) (bad 2 (by omega))
      · unfold impl_MeetingPoint.f
        exact Ev.bind (hi.2.1 h (by intro hx; exact h1 (hx a1 (by simp)))) (Ev.now _)
  · refine fin (0, 1) ?_ ?_
    · unfold spec_MeetingPoint.f
      exact Ev.bind (hs1.2.2 h) (bad 1 (by omega))
    · unfold impl_MeetingPoint.f
      exact Ev.bind (hi.2.2 h) (Ev.now _)
end Go.Proofs.Ytdkibmdpipoioaa.Pure
