/- The plain law of FnExactDropModule: what the printed functions compute, without Go and memory. No condition but the bounds that stand in it. -/
import Derived.Test.YtffnhobhpfnimaaPFnExactDropModulex0
import Derived.Test.YtffnhobhpfnimaaQFnExactDropModulea
import Derived.Test.YtffnhobhpfnimaaQFnExactDropModuleb
import Derived.Test.YtffnhobhpfnimaaQFnExactDropModulec
import Derived.Test.YtffnhobhpfnimaaQFnExactDropModuled
import Derived.Test.YtffnhobhpfnimaaOpen
namespace Go.Proofs.Ytffnhobhpfnimaa.Pure
open Go.RowKit Go.Proofs.Ytffnhobhpfnimaa.PFnExactDropModule Go.Proofs.YtffnhobhpfnimaaW.PrintWords Go.Proofs.YtffnhobhpfnimaaW.PrintLast Go.Proofs.Ytffnhobhpfnimaa.Opening
set_option linter.unusedVariables false
set_option linter.unusedSimpArgs false
theorem w64 {n : Int} (h : -9223372036854775808 ≤ n ∧ n ≤ 9223372036854775807) : wrap64 n = n := by
  unfold wrap64
  omega
theorem l01In_eq (a b c : Int) : spec_l01In.f a b c = some (decide (b ≤ a ∧ a ≤ c)) := by
  unfold spec_l01In.f
  by_cases h : b ≤ a <;> simp [h]
theorem within_eq (a b c : Int) : impl_within.f a b c = some (decide (b ≤ a ∧ a ≤ c)) := by
  unfold impl_within.f
  by_cases h : b ≤ a <;> simp [h]
theorem drop_cons {α : Type} {l : List α} {i : Int} {a : α} {s : List α} (z : α) (h0 : 0 ≤ i) (h : l.drop i.toNat = a :: s) : i < l.length ∧ l.getD i.toNat z = a ∧ l.drop (i + 1).toNat = s := by
  have hlt : i.toNat < l.length := by
    rcases Nat.lt_or_ge i.toNat l.length with h1 | h1
    · exact h1
    · rw [List.drop_eq_nil_of_le h1] at h; cases h
  rw [List.drop_eq_getElem_cons hlt] at h
  injection h with h1 h2
  refine ⟨by omega, ?_, ?_⟩
  · rw [List.getD_eq_getElem?_getD, List.getElem?_eq_getElem hlt]; exact h1
  · rw [show (i + 1).toNat = i.toNat + 1 by omega]; exact h2
theorem drop_nil {α : Type} {l : List α} {i : Int} (h0 : 0 ≤ i) (h : l.drop i.toNat = []) : ¬ i < (l.length : Int) := by
  have := List.drop_eq_nil_iff.1 h
  omega
theorem Ev_shift {α : Type} {g : Nat → Option α} {r : α} (h : Ev (fun k => g (k + 1)) r) : Ev g r := Ev.step (fun _ => rfl) h
theorem Ev_both {α β : Type} {g : Nat → Option α} {f : Nat → Option β} {r : α} {q : β} (h1 : Ev g r) (h2 : Ev f q) : ∃ K, ∀ k, K ≤ k → g k = some r ∧ f k = some q := by
  obtain ⟨K, h1⟩ := h1
  obtain ⟨K', h2⟩ := h2
  exact ⟨max K K', fun k hk => ⟨h1 k (by omega), h2 k (by omega)⟩⟩
theorem Ev_eq {α : Type} {g : Nat → Option α} {r q : α} (h : Ev g r) (e : r = q) : Ev g q := e ▸ h
theorem Ev_some {α : Type} {r q : α} (e : r = q) : Ev (fun _ => some r) q := e ▸ Ev.now r
noncomputable def tt (p : Prop) : Bool := @decide p (Classical.propDecidable p)
theorem tt_pos {p : Prop} (h : p) : tt p = true := by unfold tt; exact @decide_eq_true p (Classical.propDecidable p) h
theorem tt_neg {p : Prop} (h : ¬ p) : tt p = false := by unfold tt; exact @decide_eq_false p (Classical.propDecidable p) h
theorem tt_dec (p : Prop) [i : Decidable p] : tt p = decide p := by
  by_cases h : p
  · rw [tt_pos h, decide_eq_true h]
  · rw [tt_neg h, decide_eq_false h]
theorem tt_iff {p q : Prop} (h : p ↔ q) : tt p = tt q := by rw [propext h]
theorem tt_and (p q : Prop) : (tt p && tt q) = tt (p ∧ q) := by
  by_cases h : p
  · rw [tt_pos h, Bool.true_and]; exact tt_iff ⟨fun x => ⟨h, x⟩, fun x => x.2⟩
  · rw [tt_neg h, Bool.false_and, tt_neg (fun x => h x.1)]
theorem tt_eq_true {p : Prop} : tt p = true ↔ p := by
  by_cases h : p
  · exact ⟨fun _ => h, fun _ => tt_pos h⟩
  · refine ⟨fun e => ?_, fun h' => absurd h' h⟩
    rw [tt_neg h] at e
    cases e
theorem ev_all {L : Int → Nat → Option Bool} {P : Int → Prop} {n : Int} {fin : Bool} (h1 : ∀ i, 0 ≤ i → i < n → P i → ∀ r, Ev (L (i + 1)) r → Ev (L i) r) (h2 : ∀ i, 0 ≤ i → i < n → ¬ P i → Ev (L i) false) (h3 : Ev (L n) fin) :
    ∀ (d : Nat) (i : Int), 0 ≤ i → i + d = n → Ev (L i) (fin && tt (∀ j, i ≤ j → j < n → P j))
  | 0, i, h0, hd => by
    have e : i = n := by omega
    rw [e, tt_pos (fun j h1 h2 => by omega), Bool.and_true]
    exact h3
  | d + 1, i, h0, hd => by
    by_cases hp : P i
    · have := h1 i h0 (by omega) hp _ (ev_all h1 h2 h3 d (i + 1) (by omega) (by omega))
      refine Ev_eq this ?_
      congr 1
      exact tt_iff ⟨fun h j h1 h2 => by
        by_cases e : j = i
        · rw [e]; exact hp
        · exact h j (by omega) h2, fun h j h1 h2 => h j (by omega) h2⟩
    · rw [tt_neg (fun h => hp (h i (Int.le_refl _) (by omega))), Bool.and_false]
      exact h2 i h0 (by omega) hp
/-- The numbers from i on, d of them looked at, that are told true. -/
def idxF (p : Int → Bool) : Nat → Int → List Int
  | 0, _ => []
  | d + 1, i => if p i = true then i :: idxF p d (i + 1) else idxF p d (i + 1)
theorem idxF_length (p : Int → Bool) : ∀ (d : Nat) (i : Int), (idxF p d i).length ≤ d
  | 0, _ => Nat.le_refl _
  | d + 1, i => by
    unfold idxF
    have := idxF_length p d (i + 1)
    split
    · simp only [List.length_cons]
      omega
    · omega
theorem ev_filter {ρ : Type} {L : Int → List Int → Nat → Option ρ} {p : Int → Bool} {n : Int} {fin : List Int → ρ}
    (h1 : ∀ (i : Int) (out : List Int), 0 ≤ i → i < n → (out.length : Int) ≤ i → p i = true → ∀ r, Ev (L (i + 1) (out ++ [i])) r → Ev (L i out) r)
    (h2 : ∀ (i : Int) (out : List Int), 0 ≤ i → i < n → (out.length : Int) ≤ i → p i = false → ∀ r, Ev (L (i + 1) out) r → Ev (L i out) r)
    (h3 : ∀ out : List Int, (out.length : Int) ≤ n → Ev (L n out) (fin out)) :
    ∀ (d : Nat) (i : Int) (out : List Int), 0 ≤ i → i + d = n → (out.length : Int) ≤ i → Ev (L i out) (fin (out ++ idxF p d i))
  | 0, i, out, h0, hd, hl => by
    have e : i = n := by omega
    subst e
    simp only [idxF, List.append_nil]
    exact h3 out hl
  | d + 1, i, out, h0, hd, hl => by
    unfold idxF
    cases hp : p i with
    | true =>
      refine h1 i out h0 (by omega) hl hp _ ?_
      have := ev_filter h1 h2 h3 d (i + 1) (out ++ [i]) (by omega) (by omega) (by simp; omega)
      simpa using this
    | false =>
      refine h2 i out h0 (by omega) hl hp _ ?_
      have := ev_filter h1 h2 h3 d (i + 1) out (by omega) (by omega) (by omega)
      simpa using this
/-- A module's own numbers are right at its place. -/
def PM (l : List S116) (i : Int) : Prop := 0 ≤ (rd_T116 l i).f1 ∧ (rd_T116 l i).f1 ≤ 32 ∧ (i = 0 → (rd_T116 l i).f0 = -1) ∧ (0 < i → 0 ≤ (rd_T116 l i).f0 ∧ (rd_T116 l i).f0 ≤ i - 1)
def PMods (l : List S116) : Prop := 1 ≤ l.length ∧ l.length ≤ 12 ∧ ∀ j : Int, 0 ≤ j → j < l.length → PM l j
theorem spec_AreModules_ev (l : List S116) (hn : l.length ≤ 140737488351232) : Ev (fun k => spec_AreModules.f k l) (tt (PMods l)) := by
  unfold spec_AreModules.f
  have := ev_all (L := fun i k => spec_AreModules.l0 k l i) (P := PM l) (n := l.length) (fin := decide (1 ≤ l.length ∧ l.length ≤ 12)) (fun i h0 h1 hp r hr => ?_) (fun i h0 h1 hp => ?_) ?_ l.length 0 (by omega) (by omega)
  · refine Ev_eq this ?_
    rw [← tt_dec, tt_and]
    exact tt_iff ⟨fun h => ⟨h.1.1, h.1.2, fun j h0 h1 => h.2 j h0 h1⟩, fun h => ⟨⟨h.1, h.2.1⟩, fun j h0 h1 => h.2.2 j h0 h1⟩⟩
  · refine Ev_shift ?_
    unfold PM at hp
    simp only [spec_AreModules.l0, if_pos h1, if_pos h0, l01In_eq, Option.bind_some]
    simp only [decide_eq_true_eq]
    simp only [if_pos (And.intro hp.1 hp.2.1)]
    rw [w64 (n := i + 1) (by omega)]
    by_cases h : i = 0
    · simp only [if_pos h, if_pos (hp.2.2.1 h), if_neg (show ¬ i > 0 by omega)]
      exact hr
    · simp only [if_neg h, if_pos (show i > 0 by omega), w64 (n := i - 1) (by omega)]
      have := hp.2.2.2 (by omega)
      simp only [if_pos this]
      exact hr
  · refine Ev_shift ?_
    unfold PM at hp
    simp only [spec_AreModules.l0, if_pos h1, if_pos h0, l01In_eq, Option.bind_some]
    simp only [decide_eq_true_eq]
    by_cases hq : 0 ≤ (rd_T116 l i).f1 ∧ (rd_T116 l i).f1 ≤ 32
    · simp only [if_pos hq]
      by_cases h : i = 0
      · by_cases h2 : (rd_T116 l i).f0 = -1
        · exact absurd ⟨hq.1, hq.2, fun _ => h2, fun h => by omega⟩ hp
        · simp only [if_pos h, if_neg h2]
          exact Ev.now _
      · simp only [if_neg h, if_pos (show i > 0 by omega), w64 (n := i - 1) (by omega)]
        by_cases h2 : 0 ≤ (rd_T116 l i).f0 ∧ (rd_T116 l i).f0 ≤ i - 1
        · exact absurd ⟨hq.1, hq.2, fun h => by omega, fun _ => h2⟩ hp
        · simp only [if_neg h2]
          exact Ev.now _
    · simp only [if_neg hq]
      exact Ev.now _
  · refine Ev_shift ?_
    simp only [spec_AreModules.l0, if_neg (show ¬ (l.length : Int) < l.length by omega), l01In_eq, Option.bind_some]
    exact Ev_some (by congr 1; exact propext ⟨fun h => by omega, fun h => by omega⟩)
theorem impl_AreModules_l0 (l : List S116) (hn : l.length ≤ 140737488351232) (hz : (rd_T116 l 0).f0 = -1) : Ev (fun k => impl_AreModules.l0 k l l.length 0) (tt (∀ j : Int, 0 ≤ j → j < l.length → PM l j)) := by
  have := ev_all (L := fun i k => impl_AreModules.l0 k l l.length i) (P := PM l) (n := l.length) (fin := true) (fun i h0 h1 hp r hr => ?_) (fun i h0 h1 hp => ?_) ?_ l.length 0 (by omega) (by omega)
  · refine Ev_eq this ?_
    rw [Bool.true_and]
  · refine Ev_shift ?_
    unfold PM at hp
    simp only [impl_AreModules.l0, if_pos h1, if_pos h0, within_eq, Option.bind_some]
    simp only [decide_eq_true_eq]
    simp only [if_pos (And.intro hp.1 hp.2.1)]
    rw [w64 (n := i + 1) (by omega)]
    by_cases h : i = 0
    · simp only [if_neg (show ¬ i > 0 by omega)]
      exact hr
    · simp only [if_pos (show i > 0 by omega), w64 (n := i - 1) (by omega)]
      have := hp.2.2.2 (by omega)
      simp only [if_pos this]
      exact hr
  · refine Ev_shift ?_
    unfold PM at hp
    simp only [impl_AreModules.l0, if_pos h1, if_pos h0, within_eq, Option.bind_some]
    simp only [decide_eq_true_eq]
    by_cases hq : 0 ≤ (rd_T116 l i).f1 ∧ (rd_T116 l i).f1 ≤ 32
    · simp only [if_pos hq]
      by_cases h : i = 0
      · exact absurd ⟨hq.1, hq.2, fun h => by rw [h]; exact hz, fun h => by omega⟩ hp
      · simp only [if_pos (show i > 0 by omega), w64 (n := i - 1) (by omega)]
        by_cases h2 : 0 ≤ (rd_T116 l i).f0 ∧ (rd_T116 l i).f0 ≤ i - 1
        · exact absurd ⟨hq.1, hq.2, fun h => by omega, fun _ => h2⟩ hp
        · simp only [if_neg h2]
          exact Ev.now _
    · simp only [if_neg hq]
      exact Ev.now _
  · refine Ev_shift ?_
    simp only [impl_AreModules.l0, if_neg (show ¬ (l.length : Int) < l.length by omega)]
    exact Ev.now _
theorem impl_AreModules_ev (l : List S116) (hn : l.length ≤ 140737488351232) : Ev (fun k => impl_AreModules.f k l) (tt (PMods l)) := by
  unfold impl_AreModules.f
  have bad : ∀ {q : Prop}, ¬ q → (q ↔ PMods l) → Ev (fun k => impl_AreModules.j0 k l true) (tt (PMods l)) := by
    intro q hq e
    refine Ev_shift ?_
    simp only [impl_AreModules.j0, if_true]
    exact Ev_some (tt_neg (fun h => hq (e.2 h))).symm
  by_cases h1 : (l.length : Int) < 1
  · simp only [if_pos h1]
    exact bad (q := False) (fun h => h) ⟨fun h => h.elim, fun h => by have := h.1; omega⟩
  · simp only [if_neg h1]
    by_cases h2 : (l.length : Int) > 12
    · simp only [if_pos h2]
      exact bad (q := False) (fun h => h) ⟨fun h => h.elim, fun h => by have := h.2.1; omega⟩
    · simp only [if_neg h2, if_pos (show 0 < (l.length : Int) by omega)]
      by_cases hz : (rd_T116 l 0).f0 = -1
      · rw [hz]
        refine Ev_shift ?_
        simp only [impl_AreModules.j0, bne_self_eq_false, Bool.false_eq_true, if_false]
        refine Ev_eq (impl_AreModules_l0 l hn hz) (tt_iff ⟨fun h => ⟨by omega, by omega, h⟩, fun h => h.2.2⟩)
      · have e : ((rd_T116 l 0).f0 != -1) = true := by simpa using hz
        rw [e]
        exact bad (q := False) (fun h => h) ⟨fun h => h.elim, fun h => hz ((h.2.2 0 (by omega) (by omega)).2.2.1 rfl)⟩
theorem parent_lt {l : List S116} (h : PMods l) {m : Int} (h0 : 0 ≤ m) (h1 : m < l.length) : -1 ≤ (rd_T116 l m).f0 ∧ (rd_T116 l m).f0 < m := by
  have := h.2.2 m h0 h1
  unfold PM at this
  by_cases e : m = 0
  · have := this.2.2.1 e
    omega
  · have := this.2.2.2 (by omega)
    omega
/-- A module and all above it. -/
def wayF (l : List S116) : Nat → Int → List Int
  | 0, _ => []
  | n + 1, m => if 0 ≤ m then m :: wayF l n (rd_T116 l m).f0 else []
theorem wayF_length (l : List S116) : ∀ (n : Nat) (m : Int), (wayF l n m).length ≤ n
  | 0, _ => Nat.le_refl _
  | n + 1, m => by
    unfold wayF
    split
    · simp only [List.length_cons]
      have := wayF_length l n (rd_T116 l m).f0
      omega
    · simp
theorem spec_way_l0 {l : List S116} (h : PMods l) : ∀ (n : Nat) (m : Int) (out : List Int), -1 ≤ m → m < l.length → m + 1 ≤ n → out.length + n ≤ 1000 → Ev (fun k => spec_l12Way.l0 k l m out) (out ++ wayF l n m)
  | 0, m, out, h0, h1, h2, h3 => by
    refine Ev_shift ?_
    simp only [spec_l12Way.l0, if_neg (show ¬ m ≥ 0 by omega)]
    exact Ev_some (by simp [wayF])
  | n + 1, m, out, h0, h1, h2, h3 => by
    refine Ev_shift ?_
    by_cases hm : m ≥ 0
    · have hp := parent_lt h hm h1
      simp only [spec_l12Way.l0, if_pos hm, if_pos (show out.length < 17592186044416 by omega), if_pos (show 0 ≤ m from hm), if_pos h1]
      refine Ev_eq (spec_way_l0 h n _ (out ++ [m]) hp.1 (by omega) (by omega) (by simp; omega)) ?_
      simp [wayF, hm]
    · simp only [spec_l12Way.l0, if_neg hm]
      exact Ev_some (by simp [wayF, show ¬ 0 ≤ m from hm])
theorem spec_way {l : List S116} (h : PMods l) {m : Int} (h0 : 0 ≤ m) (h1 : m < l.length) : Ev (fun k => spec_l12Way.f k l m) (wayF l 12 m) := by
  unfold spec_l12Way.f
  have := h.2.1
  exact spec_way_l0 h 12 m [] (by omega) h1 (by omega) (by simp)
theorem spec_l12Code_ev (l : List S116) (hn : l.length ≤ 140737488351232) (m : Int) : (PMods l → 0 ≤ m → m < l.length → Ev (fun k => spec_l12Code.f k l m) 0) ∧ (PMods l → ¬ (0 ≤ m ∧ m < l.length) → Ev (fun k => spec_l12Code.f k l m) 2) ∧ (¬ PMods l → Ev (fun k => spec_l12Code.f k l m) 1) := by
  unfold spec_l12Code.f
  have w : wrap64 ((l.length : Int) - 1) = (l.length : Int) - 1 := w64 (by omega)
  refine ⟨fun h h0 h1 => ?_, fun h hm => ?_, fun h => ?_⟩
  · refine Ev.bind (spec_AreModules_ev l hn) ?_
    simp only [tt_pos h, if_true, w, l01In_eq, Option.bind_some, decide_eq_true_eq, if_pos (show 0 ≤ m ∧ m ≤ (l.length : Int) - 1 by omega)]
    exact Ev.now _
  · refine Ev.bind (spec_AreModules_ev l hn) ?_
    simp only [tt_pos h, if_true, w, l01In_eq, Option.bind_some, decide_eq_true_eq, if_neg (show ¬ (0 ≤ m ∧ m ≤ (l.length : Int) - 1) by omega)]
    exact Ev.now _
  · refine Ev.bind (spec_AreModules_ev l hn) ?_
    simp only [tt_neg h, Bool.false_eq_true, if_false]
    exact Ev.now _
theorem isIndex_eq {a n : Int} (hn : 0 ≤ n ∧ n ≤ 140737488351232) : impl_isIndex.f a n = some (decide (0 ≤ a ∧ a < n)) := by
  unfold impl_isIndex.f
  rw [w64 (by omega), within_eq, Option.bind_some]
  congr 1
  exact decide_eq_decide.2 ⟨fun h => by omega, fun h => by omega⟩
theorem asked_l0 (l : List S116) (hn : l.length ≤ 140737488351232) (xs : List Int) (hx : xs.length ≤ 140737488351232) : ∀ (s : List Int) (i : Int), 0 ≤ i → xs.drop i.toNat = s → Ev (fun k => impl_moduleAsked.l0 k l xs xs.length i) (if ∀ x ∈ s, 0 ≤ x ∧ x < (l.length : Int) then 0 else 2)
  | [], i, h0, h => by
    refine Ev_shift ?_
    simp only [impl_moduleAsked.l0, if_neg (drop_nil h0 h)]
    exact Ev_some (by simp)
  | a :: s, i, h0, h => by
    refine Ev_shift ?_
    obtain ⟨h1, h2, h3⟩ := drop_cons 0 h0 h
    have h2' : rd xs i = a := h2
    simp only [impl_moduleAsked.l0, if_pos h1, if_pos h0, h2', isIndex_eq (n := (l.length : Int)) (by omega), Option.bind_some, decide_eq_true_eq, w64 (n := i + 1) (by omega)]
    by_cases c : 0 ≤ a ∧ a < (l.length : Int)
    · simp only [if_pos c]
      refine Ev_eq (asked_l0 l hn xs hx s (i + 1) (by omega) h3) ?_
      simp only [List.mem_cons, forall_eq_or_imp, c, true_and]
    · simp only [if_neg c]
      refine Ev_some ?_
      rw [if_neg (fun hh => c (hh a (by simp)))]
theorem impl_moduleAsked_ev (l : List S116) (hn : l.length ≤ 140737488351232) (xs : List Int) (hx : xs.length ≤ 140737488351232) : (PMods l → (∀ x ∈ xs, 0 ≤ x ∧ x < (l.length : Int)) → Ev (fun k => impl_moduleAsked.f k l xs) 0) ∧ (PMods l → ¬ (∀ x ∈ xs, 0 ≤ x ∧ x < (l.length : Int)) → Ev (fun k => impl_moduleAsked.f k l xs) 2) ∧ (¬ PMods l → Ev (fun k => impl_moduleAsked.f k l xs) 1) := by
  unfold impl_moduleAsked.f
  have h0 := asked_l0 l hn xs hx xs 0 (by omega) rfl
  refine ⟨fun h hm => ?_, fun h hm => ?_, fun h => ?_⟩
  · refine Ev.bind (impl_AreModules_ev l hn) ?_
    simp only [tt_pos h, if_true]
    exact Ev_eq h0 (if_pos hm)
  · refine Ev.bind (impl_AreModules_ev l hn) ?_
    simp only [tt_pos h, if_true]
    exact Ev_eq h0 (if_neg hm)
  · refine Ev.bind (impl_AreModules_ev l hn) ?_
    simp only [tt_neg h, Bool.false_eq_true, if_false]
    exact Ev.now _
theorem mcode (l : List S116) (hn : l.length ≤ 140737488351232) (m : Int) : ∃ c : Int, (c = 0 → PMods l ∧ 0 ≤ m ∧ m < l.length) ∧ Ev (fun k => spec_l12Code.f k l m) c ∧ Ev (fun k => impl_moduleAsked.f k l [m]) c := by
  have hs := spec_l12Code_ev l hn m
  have hi := impl_moduleAsked_ev l hn [m] (by simp)
  by_cases h : PMods l
  · by_cases hm : 0 ≤ m ∧ m < l.length
    · exact ⟨0, fun _ => ⟨h, hm.1, hm.2⟩, hs.1 h hm.1 hm.2, hi.1 h (by simpa using hm)⟩
    · exact ⟨2, fun e => by omega, hs.2.1 h hm, hi.2.1 h (by simpa using hm)⟩
  · exact ⟨1, fun e => by omega, hs.2.2 h, hi.2.2 h⟩
theorem way_le {l : List S116} (h : PMods l) : ∀ (n : Nat) (m x : Int), -1 ≤ m → m < l.length → x ∈ wayF l n m → 0 ≤ x ∧ x ≤ m
  | 0, m, x, h0, h1, hx => by simp [wayF] at hx
  | n + 1, m, x, h0, h1, hx => by
    unfold wayF at hx
    split at hx
    · rename_i hm
      have hp := parent_lt h hm h1
      rcases List.mem_cons.1 hx with e | hx
      · omega
      · have := way_le h n _ x hp.1 (by omega) hx
        omega
    · simp at hx
theorem way_mem_step {l : List S116} (h : PMods l) {n : Nat} {m x : Int} (h0 : 0 ≤ m) (h1 : m < l.length) : x ∈ wayF l (n + 1) m ↔ x = m ∨ x ∈ wayF l n (rd_T116 l m).f0 := by
  show x ∈ (if 0 ≤ m then m :: wayF l n (rd_T116 l m).f0 else []) ↔ _
  rw [if_pos h0]
  simp
theorem way_more {l : List S116} (h : PMods l) : ∀ (n k : Nat) (m : Int), -1 ≤ m → m < l.length → m + 1 ≤ n → n ≤ k → wayF l k m = wayF l n m
  | 0, 0, m, _, _, _, _ => rfl
  | 0, k + 1, m, h0, h1, h2, h3 => by
    unfold wayF
    rw [if_neg (by omega)]
  | n + 1, 0, m, h0, h1, h2, h3 => by omega
  | n + 1, k + 1, m, h0, h1, h2, h3 => by
    unfold wayF
    split
    · rename_i hm
      have hp := parent_lt h hm h1
      rw [way_more h n k _ hp.1 (by omega) (by omega) (by omega)]
    · rfl
theorem zero_mem {l : List S116} (h : PMods l) : ∀ (n : Nat) (m : Int), 0 ≤ m → m < l.length → m + 1 ≤ n → 0 ∈ wayF l n m
  | 0, m, h0, h1, h2 => by omega
  | n + 1, m, h0, h1, h2 => by
    rw [way_mem_step h h0 h1]
    by_cases e : m = 0
    · exact .inl e.symm
    · have hp := h.2.2 m h0 h1
      unfold PM at hp
      have := hp.2.2.2 (by omega)
      exact .inr (zero_mem h n _ this.1 (by omega) (by omega))
theorem has_l0 (l : List Int) (hn : l.length ≤ 140737488351232) (x : Int) : ∀ (s : List Int) (i : Int), 0 ≤ i → l.drop i.toNat = s → Ev (fun k => spec_l01Has.l0 k l x i) (decide (x ∈ s))
  | [], i, h0, h => by
    refine Ev_shift ?_
    simp only [spec_l01Has.l0, if_neg (drop_nil h0 h)]
    exact Ev_some (by simp)
  | a :: s, i, h0, h => by
    refine Ev_shift ?_
    obtain ⟨h1, h2, h3⟩ := drop_cons 0 h0 h
    have h2' : rd l i = a := h2
    by_cases e : a = x
    · simp only [spec_l01Has.l0, if_pos h1, if_pos h0, h2', if_pos e]
      exact Ev_some (by simp [e])
    · simp only [spec_l01Has.l0, if_pos h1, if_pos h0, h2', if_neg e, w64 (n := i + 1) (by omega)]
      refine Ev_eq (has_l0 l hn x s (i + 1) (by omega) h3) ?_
      simp [Ne.symm e]
theorem has_ev (l : List Int) (hn : l.length ≤ 140737488351232) (x : Int) : Ev (fun k => spec_l01Has.f k l x) (decide (x ∈ l)) := by
  unfold spec_l01Has.f
  exact has_l0 l hn x l 0 (by omega) rfl
/-- Is i the module or below it? -/
def belowP (l : List S116) (m : Int) (i : Int) : Bool := decide (m ∈ wayF l 12 i)
theorem spec_below {l : List S116} (h : PMods l) (m : Int) : Ev (fun k => spec_l12Below.f k l m) (idxF (belowP l m) l.length 0) := by
  unfold spec_l12Below.f
  have hl := h.2.1
  have := ev_filter (L := fun i out k => spec_l12Below.l0 k l m out i) (p := belowP l m) (n := l.length) (fin := fun out => out)
    (fun i out h0 h1 h2 hp r hr => by
      refine Ev_shift ?_
      simp only [spec_l12Below.l0, if_pos h1]
      refine Ev.bind (spec_way h h0 h1) ?_
      refine Ev.bind (has_ev (wayF l 12 i) (by have := wayF_length l 12 i; omega) m) ?_
      have hp' : decide (m ∈ wayF l 12 i) = true := hp
      simp only [hp', if_true, if_pos (show out.length < 17592186044416 by omega), w64 (n := i + 1) (by omega)]
      exact hr)
    (fun i out h0 h1 h2 hp r hr => by
      refine Ev_shift ?_
      simp only [spec_l12Below.l0, if_pos h1]
      refine Ev.bind (spec_way h h0 h1) ?_
      refine Ev.bind (has_ev (wayF l 12 i) (by have := wayF_length l 12 i; omega) m) ?_
      have hp' : decide (m ∈ wayF l 12 i) = false := hp
      simp only [hp', Bool.false_eq_true, if_false, w64 (n := i + 1) (by omega)]
      exact hr)
    (fun out h2 => by
      refine Ev_shift ?_
      simp only [spec_l12Below.l0, if_neg (show ¬ (l.length : Int) < l.length by omega)]
      exact Ev.now _) l.length 0 [] (by omega) (by omega) (by simp)
  exact this
theorem below_step {l : List S116} (h : PMods l) {m i : Int} (h0 : 0 ≤ i) (h1 : i < l.length) : belowP l m i = (decide (m = i) || (decide (0 ≤ (rd_T116 l i).f0) && belowP l m (rd_T116 l i).f0)) := by
  have hl := h.2.1
  have hp := parent_lt h h0 h1
  unfold belowP
  rw [← way_more h 12 14 i (by omega) h1 (by omega) (by omega), ← way_more h 12 13 (rd_T116 l i).f0 hp.1 (by omega) (by omega) (by omega)]
  have := way_mem_step (n := 13) (x := m) h h0 h1
  by_cases hz : 0 ≤ (rd_T116 l i).f0
  · simp [this, hz]
  · have e : wayF l 13 (rd_T116 l i).f0 = [] := by
      show (if 0 ≤ (rd_T116 l i).f0 then _ else _) = _
      rw [if_neg hz]
    rw [e] at this ⊢
    simp only [this]
    simp [hz]
theorem rdb_set (y : List Bool) (i j : Int) (v : Bool) (h0 : 0 ≤ i) (h1 : i < y.length) (j0 : 0 ≤ j) (j1 : j < y.length) : rdOf false (y.set i.toNat v) j = if j = i then v else rdOf false y j := by
  unfold rdOf
  rw [List.getD_eq_getElem?_getD, List.getD_eq_getElem?_getD, List.getElem?_set]
  by_cases e : j = i
  · subst e
    rw [if_pos rfl, if_pos rfl, if_pos (by omega)]
    rfl
  · rw [if_neg (by omega), if_neg e]
theorem impl_below_l0 {l : List S116} (h : PMods l) (m : Int) : ∀ (d : Nat) (i : Int) (y : List Bool), 0 ≤ i → i + d = l.length → y.length = l.length → (∀ j : Int, 0 ≤ j → j < l.length → rdOf false y j = if j < i then belowP l m j else decide (m = j)) →
    ∃ y', y'.length = l.length ∧ (∀ j : Int, 0 ≤ j → j < l.length → rdOf false y' j = belowP l m j) ∧ Ev (fun k => impl_isBelow.l0 k y l l.length i) y'
  | 0, i, y, h0, hd, hy, hj => by
    refine ⟨y, hy, fun j j0 j1 => ?_, Ev_shift ?_⟩
    · rw [hj j j0 j1, if_pos (by omega)]
    · simp only [impl_isBelow.l0, if_neg (show ¬ i < (l.length : Int) by omega)]
      exact Ev.now _
  | d + 1, i, y, h0, hd, hy, hj => by
    have hl := h.2.1
    have h1 : i < (l.length : Int) := by omega
    have hp := parent_lt h h0 h1
    have hb := below_step (m := m) h h0 h1
    have w := w64 (n := i + 1) (by omega)
    by_cases hz : (rd_T116 l i).f0 ≥ 0
    · have hpy := hj (rd_T116 l i).f0 hz (by omega)
      rw [if_pos (by omega)] at hpy
      by_cases hbp : belowP l m (rd_T116 l i).f0 = true
      · obtain ⟨y', a, b, c⟩ := impl_below_l0 h m d (i + 1) (y.set i.toNat true) (by omega) (by omega) (by simpa using hy) (fun j j0 j1 => by
          rw [rdb_set y i j true h0 (by omega) j0 (by omega)]
          by_cases e : j = i
          · rw [if_pos e, if_pos (by omega), e, hb, hbp]
            simp [show 0 ≤ (rd_T116 l i).f0 from hz]
          · rw [if_neg e, hj j j0 j1]
            by_cases g : j < i
            · rw [if_pos g, if_pos (by omega)]
            · rw [if_neg g, if_neg (by omega)])
        refine ⟨y', a, b, Ev_shift ?_⟩
        simp only [impl_isBelow.l0, if_pos h1, if_pos h0, if_pos hz, if_pos (show 0 ≤ (rd_T116 l i).f0 from hz), if_pos (show (rd_T116 l i).f0 < (y.length : Int) by omega), hpy, hbp, if_true, if_pos (show i < (y.length : Int) by omega), w]
        exact c
      · have hbp' : belowP l m (rd_T116 l i).f0 = false := by simpa using hbp
        obtain ⟨y', a, b, c⟩ := impl_below_l0 h m d (i + 1) y (by omega) (by omega) hy (fun j j0 j1 => by
          rw [hj j j0 j1]
          by_cases e : j = i
          · rw [if_neg (by omega), if_pos (by omega), e, hb, hbp']
            simp
          · by_cases g : j < i
            · rw [if_pos g, if_pos (by omega)]
            · rw [if_neg g, if_neg (by omega)])
        refine ⟨y', a, b, Ev_shift ?_⟩
        simp only [impl_isBelow.l0, if_pos h1, if_pos h0, if_pos hz, if_pos (show 0 ≤ (rd_T116 l i).f0 from hz), if_pos (show (rd_T116 l i).f0 < (y.length : Int) by omega), hpy, hbp', Bool.false_eq_true, if_false, w]
        exact c
    · obtain ⟨y', a, b, c⟩ := impl_below_l0 h m d (i + 1) y (by omega) (by omega) hy (fun j j0 j1 => by
        rw [hj j j0 j1]
        by_cases e : j = i
        · rw [if_neg (by omega), if_pos (by omega), e, hb]
          simp [show ¬ 0 ≤ (rd_T116 l i).f0 from hz]
        · by_cases g : j < i
          · rw [if_pos g, if_pos (by omega)]
          · rw [if_neg g, if_neg (by omega)])
      refine ⟨y', a, b, Ev_shift ?_⟩
      simp only [impl_isBelow.l0, if_pos h1, if_pos h0, if_neg hz, w]
      exact c
theorem impl_below {l : List S116} (h : PMods l) {m : Int} (m0 : 0 ≤ m) (m1 : m < l.length) : ∃ y : List Bool, y.length = l.length ∧ (∀ j : Int, 0 ≤ j → j < l.length → rdOf false y j = belowP l m j) ∧ Ev (fun k => impl_isBelow.f k l m) y := by
  have hl := h.2.1
  obtain ⟨y, a, b, c⟩ := impl_below_l0 h m l.length 0 ((List.replicate l.length false).set m.toNat true) (by omega) (by omega) (by simp) (fun j j0 j1 => by
    rw [rdb_set _ m j true m0 (by simp; omega) j0 (by simp; omega), if_neg (show ¬ j < 0 by omega)]
    by_cases e : j = m
    · rw [if_pos e, e]
      simp
    · rw [if_neg e, decide_eq_false (fun hh => e hh.symm)]
      unfold rdOf
      rw [List.getD_eq_getElem?_getD, List.getElem?_replicate]
      split <;> rfl)
  refine ⟨y, a, b, ?_⟩
  unfold impl_isBelow.f
  simp only [if_pos (show 0 ≤ (l.length : Int) by omega), Int.toNat_natCast, if_pos (show l.length ≤ 281474976710656 by omega), Option.bind_some, if_pos m0, if_pos (show m < ((List.replicate l.length false).length : Int) by simp; omega)]
  exact c
theorem idxF_mem (p : Int → Bool) : ∀ (d : Nat) (i x : Int), x ∈ idxF p d i ↔ i ≤ x ∧ x < i + d ∧ p x = true
  | 0, i, x => by simp [idxF]; omega
  | d + 1, i, x => by
    unfold idxF
    have ih := idxF_mem p d (i + 1) x
    by_cases hp : p i = true
    · rw [if_pos hp, List.mem_cons, ih]
      constructor
      · rintro (rfl | h)
        · exact ⟨by omega, by omega, hp⟩
        · exact ⟨by omega, by omega, h.2.2⟩
      · rintro ⟨a, b, c⟩
        by_cases e : x = i
        · exact .inl e
        · exact .inr ⟨by omega, by omega, c⟩
    · rw [if_neg hp, ih]
      constructor
      · rintro ⟨a, b, c⟩
        exact ⟨by omega, by omega, c⟩
      · rintro ⟨a, b, c⟩
        by_cases e : x = i
        · rw [e] at c
          exact absurd c hp
        · exact ⟨by omega, by omega, c⟩
/-- How many of the first numbers aren't told true. -/
def cntB (b : Int → Bool) : Nat → Int
  | 0 => 0
  | n + 1 => cntB b n + (if b n = true then 0 else 1)
theorem cntB_rng (b : Int → Bool) : ∀ n, 0 ≤ cntB b n ∧ cntB b n ≤ n
  | 0 => by simp [cntB]
  | n + 1 => by
    have := cntB_rng b n
    unfold cntB
    split <;> omega
/-- The modules that are left, with new numbers. -/
def dropM (l : List S116) (b : Int → Bool) : Nat → Int → List S116
  | 0, _ => []
  | d + 1, i => if b i = true then dropM l b d (i + 1) else ⟨if 0 ≤ (rd_T116 l i).f0 then cntB b (rd_T116 l i).f0.toNat else (rd_T116 l i).f0, (rd_T116 l i).f1⟩ :: dropM l b d (i + 1)
theorem dropM_length (l : List S116) (b : Int → Bool) : ∀ d i, (dropM l b d i).length ≤ d
  | 0, _ => Nat.le_refl _
  | d + 1, i => by
    have := dropM_length l b d (i + 1)
    unfold dropM
    split
    · omega
    · simp only [List.length_cons]
      omega
theorem spec_drop_l0 {l : List S116} (h : PMods l) (m : Int) : ∀ (d : Nat) (i : Nat) (num : List Int) (out : List S116), i + d = l.length → num.length = i → (∀ j : Nat, j < i → rd num (j : Int) = cntB (belowP l m) j) → (out.length : Int) = cntB (belowP l m) i → Ev (fun k => spec_DropModule.l0 k l (idxF (belowP l m) l.length 0) num out (i : Int)) (out ++ dropM l (belowP l m) d i, 0)
  | 0, i, num, out, hd, hn, hj, ho => by
    refine Ev_shift ?_
    simp only [spec_DropModule.l0, if_neg (show ¬ (i : Int) < l.length by omega), dropM, List.append_nil]
    exact Ev.now _
  | d + 1, i, num, out, hd, hn, hj, ho => by
    have hl := h.2.1
    have hc := cntB_rng (belowP l m) i
    have hlen := idxF_length (belowP l m) l.length 0
    have hi : (i : Int) < l.length := by omega
    have hp := parent_lt h (m := (i : Int)) (by omega) hi
    have hpm := h.2.2 (i : Int) (by omega) hi
    unfold PM at hpm
    have hnew : ∀ j : Nat, j < i + 1 → rd (num ++ [(out.length : Int)]) (j : Int) = cntB (belowP l m) j := fun j hj2 => by
      show List.getD _ _ _ = _
      rw [Int.toNat_natCast, List.getD_eq_getElem?_getD]
      by_cases e : j = i
      · rw [e, List.getElem?_append_right (by omega), hn]
        simpa using ho
      · rw [List.getElem?_append_left (by omega)]
        have := hj j (by omega)
        rw [← this]
        show _ = List.getD _ _ _
        rw [Int.toNat_natCast, List.getD_eq_getElem?_getD]
    have e1 : ((i : Int) + 1) = ((i + 1 : Nat) : Int) := by omega
    refine Ev_shift ?_
    simp only [spec_DropModule.l0, if_pos hi, if_pos (show num.length < 17592186044416 by omega), Option.bind_some]
    refine Ev.bind (has_ev _ (by omega) (i : Int)) ?_
    rw [show decide ((i : Int) ∈ idxF (belowP l m) l.length 0) = belowP l m i by
      by_cases c : belowP l m i = true
      · rw [c, decide_eq_true ((idxF_mem _ _ _ _).2 ⟨by omega, by omega, c⟩)]
      · rw [show belowP l m i = false by simpa using c, decide_eq_false (fun hx => c ((idxF_mem _ _ _ _).1 hx).2.2)]]
    unfold dropM
    simp only [w64 (n := (i : Int) + 1) (by omega), w64 (n := ((i + 1 : Nat) : Int)) (by omega), e1]
    by_cases c : belowP l m i = true
    · simp only [if_pos c]
      exact spec_drop_l0 h m d (i + 1) _ out (by omega) (by simp; omega) hnew (by unfold cntB; rw [if_pos c]; omega)
    · have step : ∀ z : S116, Ev (fun k => spec_DropModule.l0 k l (idxF (belowP l m) l.length 0) (num ++ [(out.length : Int)]) (out ++ [z]) ((i + 1 : Nat) : Int)) (out ++ z :: dropM l (belowP l m) d ((i + 1 : Nat) : Int), 0) := fun z => by
        have := spec_drop_l0 h m d (i + 1) (num ++ [(out.length : Int)]) (out ++ [z]) (by omega) (by simp; omega) hnew (by unfold cntB; rw [if_neg c]; simp; omega)
        simpa only [List.append_assoc, List.singleton_append] using this
      by_cases hz : (i : Int) > 0
      · have hpp := hpm.2.2.2 hz
        have hv := hnew (rd_T116 l i).f0.toNat (by omega)
        rw [show (((rd_T116 l i).f0.toNat : Nat) : Int) = (rd_T116 l i).f0 by omega] at hv
        simp only [if_neg c, if_pos hz, if_pos (show (0 : Int) ≤ i by omega), if_pos hpp.1, if_pos (show (rd_T116 l i).f0 < ((num ++ [(out.length : Int)]).length : Int) by simp; omega), if_pos (show out.length < 8796093022208 by omega), hv]
        exact step _
      · have e0 : (rd_T116 l i).f0 = -1 := hpm.2.2.1 (by omega)
        simp only [if_neg c, if_neg hz, if_pos (show (0 : Int) ≤ i by omega), if_pos (show out.length < 8796093022208 by omega), if_neg (show ¬ 0 ≤ (rd_T116 l i).f0 by omega)]
        exact step _
theorem impl_drop_l0 {l : List S116} (h : PMods l) (m : Int) (y : List Bool) (hy : y.length = l.length) (hv : ∀ j : Int, 0 ≤ j → j < l.length → rdOf false y j = belowP l m j) : ∀ (d : Nat) (i : Nat) (num : List Int) (out : List S116), i + d = l.length → num.length = l.length → (∀ j : Nat, j < i → belowP l m j = false → rd num (j : Int) = cntB (belowP l m) j) → (out.length : Int) = cntB (belowP l m) i → Ev (fun k => impl_DropModule.l0 k y num out l l.length (i : Int)) (out ++ dropM l (belowP l m) d i, 0)
  | 0, i, num, out, hd, hn, hj, ho => by
    refine Ev_shift ?_
    simp only [impl_DropModule.l0, if_neg (show ¬ (i : Int) < l.length by omega), dropM, List.append_nil]
    exact Ev.now _
  | d + 1, i, num, out, hd, hn, hj, ho => by
    have hl := h.2.1
    have hc := cntB_rng (belowP l m) i
    have hi : (i : Int) < l.length := by omega
    have hp := parent_lt h (m := (i : Int)) (by omega) hi
    have hb := below_step (m := m) h (show (0 : Int) ≤ i by omega) hi
    have e1 : ((i : Int) + 1) = ((i + 1 : Nat) : Int) := by omega
    refine Ev_shift ?_
    unfold dropM
    simp only [impl_DropModule.l0, if_pos hi, if_pos (show (0 : Int) ≤ i by omega), if_pos (show (i : Int) < y.length by omega), hv i (by omega) hi, w64 (n := (i : Int) + 1) (by omega), w64 (n := ((i + 1 : Nat) : Int)) (by omega), e1]
    by_cases c : belowP l m i = true
    · simp only [if_pos c]
      exact impl_drop_l0 h m y hy hv d (i + 1) num out (by omega) hn (fun j hj2 hf => by
        by_cases e : j = i
        · rw [e, c] at hf
          cases hf
        · exact hj j (by omega) hf) (by unfold cntB; rw [if_pos c]; omega)
    · have c' : belowP l m i = false := by simpa using c
      have hnew : ∀ j : Nat, j < i + 1 → belowP l m j = false → rd (num.set ((i : Int)).toNat (out.length : Int)) (j : Int) = cntB (belowP l m) j := fun j hj2 hf => by
        show List.getD _ _ _ = _
        rw [Int.toNat_natCast, Int.toNat_natCast, List.getD_eq_getElem?_getD, List.getElem?_set]
        by_cases e : i = j
        · rw [if_pos e, if_pos (by omega), ← e]
          exact ho
        · rw [if_neg e]
          have := hj j (by omega) hf
          rw [← this]
          show _ = List.getD _ _ _
          rw [Int.toNat_natCast, List.getD_eq_getElem?_getD]
      have step : ∀ z : S116, Ev (fun k => impl_DropModule.l0 k y (num.set ((i : Int)).toNat (out.length : Int)) (out ++ [z]) l l.length ((i + 1 : Nat) : Int)) (out ++ z :: dropM l (belowP l m) d ((i + 1 : Nat) : Int), 0) := fun z => by
        have := impl_drop_l0 h m y hy hv d (i + 1) (num.set ((i : Int)).toNat (out.length : Int)) (out ++ [z]) (by omega) (by simpa using hn) hnew (by unfold cntB; rw [if_neg c]; simp; omega)
        simpa only [List.append_assoc, List.singleton_append] using this
      simp only [c', Bool.false_eq_true, if_false, if_pos (show (i : Int) < num.length by omega), Option.bind_some]
      by_cases hz : (rd_T116 l i).f0 ≥ 0
      · have hpb : belowP l m (rd_T116 l i).f0 = false := by
          rw [c'] at hb
          cases hx : belowP l m (rd_T116 l i).f0 with
          | false => rfl
          | true =>
            rw [hx, decide_eq_true (show 0 ≤ (rd_T116 l i).f0 from hz)] at hb
            simp at hb
        have hv2 := hnew (rd_T116 l i).f0.toNat (by omega) (by rw [show (((rd_T116 l i).f0.toNat : Nat) : Int) = (rd_T116 l i).f0 by omega]; exact hpb)
        rw [show (((rd_T116 l i).f0.toNat : Nat) : Int) = (rd_T116 l i).f0 by omega] at hv2
        simp only [if_pos hz, if_pos (show 0 ≤ (rd_T116 l i).f0 from hz), if_pos (show (rd_T116 l i).f0 < (num.length : Int) by omega), if_pos (show out.length < 8796093022208 by omega), hv2]
        exact step _
      · simp only [if_neg hz, if_neg (show ¬ 0 ≤ (rd_T116 l i).f0 from hz), if_pos (show out.length < 8796093022208 by omega)]
        exact step _
theorem agree_DropModule (m0 : List S116) (a1 : Int) (hn0 : m0.length ≤ 1000000) (hq0 : ∀ x ∈ m0, (I64 x.f0 ∧ I64 x.f1)) (q1 : I64 a1) : ∃ (K : Nat) (r1 : List (S116)) (r2 : Int), r1.length ≤ 10000000 ∧ ∀ k, K ≤ k → spec_DropModule.f k m0 a1 = some (r1, r2) ∧ impl_DropModule.f k m0 a1 = some (r1, r2) := by
  obtain ⟨c, hc, hs, hi⟩ := mcode m0 (by omega) a1
  have fin : ∀ q : List S116 × Int, q.1.length ≤ 10000000 → Ev (fun k => spec_DropModule.f k m0 a1) q → Ev (fun k => impl_DropModule.f k m0 a1) q → ∃ (K : Nat) (r1 : List (S116)) (r2 : Int), r1.length ≤ 10000000 ∧ ∀ k, K ≤ k → spec_DropModule.f k m0 a1 = some (r1, r2) ∧ impl_DropModule.f k m0 a1 = some (r1, r2) := by
    rintro ⟨x, y⟩ hq e1 e2
    obtain ⟨K, hk⟩ := Ev_both e1 e2
    exact ⟨K, x, y, hq, hk⟩
  have j1 : ∀ c : Int, c ≠ 0 → Ev (fun k => spec_DropModule.j1 k m0 a1 c) (([] : List S116), c) := fun c hc => by
    refine Ev_shift ?_
    simp only [spec_DropModule.j1, if_neg hc]
    exact Ev.now _
  by_cases h : c = 0
  · obtain ⟨hp, h0, h1⟩ := hc h
    have hl := hp.2.1
    obtain ⟨y, ya, yb, yc⟩ := impl_below hp h0 h1
    by_cases hz : a1 = 0
    · refine fin ([], 5) (by simp) ?_ ?_
      · unfold spec_DropModule.f
        refine Ev.bind hs ?_
        simp only [if_pos h, hz, beq_self_eq_true]
        refine Ev_shift ?_
        simp only [spec_DropModule.j0, if_true]
        have := j1 5 (by omega)
        rw [hz] at this
        exact this
      · unfold impl_DropModule.f
        refine Ev.bind hi ?_
        simp only [if_pos h, if_pos hz]
        exact Ev.now _
    · have hlen := dropM_length m0 (belowP m0 a1) m0.length 0
      refine fin (dropM m0 (belowP m0 a1) m0.length 0, 0) (by show List.length (dropM _ _ _ _) ≤ _; omega) ?_ ?_
      · unfold spec_DropModule.f
        refine Ev.bind hs ?_
        simp only [if_pos h, show (a1 == 0) = false from beq_eq_false_iff_ne.2 hz]
        refine Ev_shift ?_
        simp only [spec_DropModule.j0, Bool.false_eq_true, if_false]
        refine Ev_shift ?_
        simp only [spec_DropModule.j1, if_pos h]
        refine Ev.bind (spec_below hp a1) ?_
        exact spec_drop_l0 hp a1 m0.length 0 [] [] (by omega) rfl (fun j hj => by omega) rfl
      · unfold impl_DropModule.f
        refine Ev.bind hi ?_
        simp only [if_pos h, if_neg hz]
        refine Ev.bind yc ?_
        simp only [if_pos (show 0 ≤ (m0.length : Int) by omega), Int.toNat_natCast, if_pos (show m0.length ≤ 35184372088832 by omega)]
        exact impl_drop_l0 hp a1 y ya yb m0.length 0 _ [] (by omega) (by simp) (fun j hj => by omega) rfl
  · refine fin ([], c) (by simp) ?_ ?_
    · unfold spec_DropModule.f
      refine Ev.bind hs ?_
      simp only [if_neg h]
      refine Ev_shift ?_
      simp only [spec_DropModule.j0, Bool.false_eq_true, if_false]
      exact j1 c h
    · unfold impl_DropModule.f
      refine Ev.bind hi ?_
      simp only [if_neg h]
      exact Ev.now _
end Go.Proofs.Ytffnhobhpfnimaa.Pure
