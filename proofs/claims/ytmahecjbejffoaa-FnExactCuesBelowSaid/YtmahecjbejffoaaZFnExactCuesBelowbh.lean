/- PureFnExactCuesBelow of the law FnExactCuesBelow: taken over, declaration by declaration, as far as the law leans on it (the words and the printed functions are the kit's own print). No condition but what each says. -/
import Derived.Test.YtmahecjbejffoaaZFnExactCuesBelowav
import Derived.Test.YtmahecjbejffoaaZFnExactCuesBelowaw
import Derived.Test.YtmahecjbejffoaaZFnExactCuesBelowax
import Derived.Test.YtmahecjbejffoaaZFnExactCuesBeloway
import Derived.Test.YtmahecjbejffoaaZFnExactCuesBelowaz
import Derived.Test.YtmahecjbejffoaaZFnExactCuesBelowba
import Derived.Test.YtmahecjbejffoaaZFnExactCuesBelowbb
import Derived.Test.YtmahecjbejffoaaZFnExactCuesBelowbc
import Derived.Test.YtmahecjbejffoaaZFnExactCuesBelowbd
import Derived.Test.YtmahecjbejffoaaZFnExactCuesBelowbe
namespace Go.Proofs.Ytmahecjbejffoaa.Pure
open Go.RowKit Go.Proofs.Ytmahecjbejffoaa.PFnExactCuesBelow Go.Proofs.YtmahecjbejffoaaW.PrintWords Go.Proofs.YtmahecjbejffoaaW.PrintLast Go.Proofs.Ytmahecjbejffoaa.Opening
set_option linter.unusedVariables false
set_option linter.unusedSimpArgs false
theorem w64 {n : Int} (h : -9223372036854775808 ≤ n ∧ n ≤ 9223372036854775807) : wrap64 n = n := by
  unfold wrap64
  omega
theorem l01In_eq (a b c : Int) : spec_l01In.f a b c = some (decide (b ≤ a ∧ a ≤ c)) := by
  unfold spec_l01In.f
  by_cases h : b ≤ a <;> simp [h]
theorem within_eq (a b c : Int) : impl_within.f a b c = some (decide (b ≤ a ∧ a ≤ c)) := by
  unfold impl_within.f
  by_cases h : b ≤ a <;> simp [h]
theorem drop_cons {α : Type} {l : List α} {i : Int} {a : α} {s : List α} (z : α) (h0 : 0 ≤ i) (h : l.drop i.toNat = a :: s) : i < l.length ∧ l.getD i.toNat z = a ∧ l.drop (i + 1).toNat = s := by
  have hlt : i.toNat < l.length := by
    rcases Nat.lt_or_ge i.toNat l.length with h1 | h1
    · exact h1
    · rw [List.drop_eq_nil_of_le h1] at h; cases h
  rw [List.drop_eq_getElem_cons hlt] at h
  injection h with h1 h2
  refine ⟨by omega, ?_, ?_⟩
  · rw [List.getD_eq_getElem?_getD, List.getElem?_eq_getElem hlt]; exact h1
  · rw [show (i + 1).toNat = i.toNat + 1 by omega]; exact h2
theorem drop_nil {α : Type} {l : List α} {i : Int} (h0 : 0 ≤ i) (h : l.drop i.toNat = []) : ¬ i < (l.length : Int) := by
  have := List.drop_eq_nil_iff.1 h
  omega
theorem Ev_shift {α : Type} {g : Nat → Option α} {r : α} (h : Ev (fun k => g (k + 1)) r) : Ev g r := Ev.step (fun _ => rfl) h
theorem Ev_both {α β : Type} {g : Nat → Option α} {f : Nat → Option β} {r : α} {q : β} (h1 : Ev g r) (h2 : Ev f q) : ∃ K, ∀ k, K ≤ k → g k = some r ∧ f k = some q := by
  obtain ⟨K, h1⟩ := h1
  obtain ⟨K', h2⟩ := h2
  exact ⟨max K K', fun k hk => ⟨h1 k (by omega), h2 k (by omega)⟩⟩
theorem Ev_eq {α : Type} {g : Nat → Option α} {r q : α} (h : Ev g r) (e : r = q) : Ev g q := e ▸ h
theorem Ev_some {α : Type} {r q : α} (e : r = q) : Ev (fun _ => some r) q := e ▸ Ev.now r
noncomputable def tt (p : Prop) : Bool := @decide p (Classical.propDecidable p)
theorem tt_pos {p : Prop} (h : p) : tt p = true := by unfold tt; exact @decide_eq_true p (Classical.propDecidable p) h
theorem tt_neg {p : Prop} (h : ¬ p) : tt p = false := by unfold tt; exact @decide_eq_false p (Classical.propDecidable p) h
theorem tt_dec (p : Prop) [i : Decidable p] : tt p = decide p := by
  by_cases h : p
  · rw [tt_pos h, decide_eq_true h]
  · rw [tt_neg h, decide_eq_false h]
theorem tt_iff {p q : Prop} (h : p ↔ q) : tt p = tt q := by rw [propext h]
theorem tt_and (p q : Prop) : (tt p && tt q) = tt (p ∧ q) := by
  by_cases h : p
  · rw [tt_pos h, Bool.true_and]; exact tt_iff ⟨fun x => ⟨h, x⟩, fun x => x.2⟩
  · rw [tt_neg h, Bool.false_and, tt_neg (fun x => h x.1)]
theorem ev_all {L : Int → Nat → Option Bool} {P : Int → Prop} {n : Int} {fin : Bool} (h1 : ∀ i, 0 ≤ i → i < n → P i → ∀ r, Ev (L (i + 1)) r → Ev (L i) r) (h2 : ∀ i, 0 ≤ i → i < n → ¬ P i → Ev (L i) false) (h3 : Ev (L n) fin) :
    ∀ (d : Nat) (i : Int), 0 ≤ i → i + d = n → Ev (L i) (fin && tt (∀ j, i ≤ j → j < n → P j))
  | 0, i, h0, hd => by
    have e : i = n := by omega
    rw [e, tt_pos (fun j h1 h2 => by omega), Bool.and_true]
    exact h3
  | d + 1, i, h0, hd => by
    by_cases hp : P i
    · have := h1 i h0 (by omega) hp _ (ev_all h1 h2 h3 d (i + 1) (by omega) (by omega))
      refine Ev_eq this ?_
      congr 1
      exact tt_iff ⟨fun h j h1 h2 => by
        by_cases e : j = i
        · rw [e]; exact hp
        · exact h j (by omega) h2, fun h j h1 h2 => h j (by omega) h2⟩
    · rw [tt_neg (fun h => hp (h i (Int.le_refl _) (by omega))), Bool.and_false]
      exact h2 i h0 (by omega) hp
/-- The numbers from i on, d of them looked at, that are told true. -/
def idxF (p : Int → Bool) : Nat → Int → List Int
  | 0, _ => []
  | d + 1, i => if p i = true then i :: idxF p d (i + 1) else idxF p d (i + 1)
theorem idxF_length (p : Int → Bool) : ∀ (d : Nat) (i : Int), (idxF p d i).length ≤ d
  | 0, _ => Nat.le_refl _
  | d + 1, i => by
    unfold idxF
    have := idxF_length p d (i + 1)
    split
    · simp only [List.length_cons]
      omega
    · omega
theorem ev_filter {ρ : Type} {L : Int → List Int → Nat → Option ρ} {p : Int → Bool} {n : Int} {fin : List Int → ρ}
    (h1 : ∀ (i : Int) (out : List Int), 0 ≤ i → i < n → (out.length : Int) ≤ i → p i = true → ∀ r, Ev (L (i + 1) (out ++ [i])) r → Ev (L i out) r)
    (h2 : ∀ (i : Int) (out : List Int), 0 ≤ i → i < n → (out.length : Int) ≤ i → p i = false → ∀ r, Ev (L (i + 1) out) r → Ev (L i out) r)
    (h3 : ∀ out : List Int, (out.length : Int) ≤ n → Ev (L n out) (fin out)) :
    ∀ (d : Nat) (i : Int) (out : List Int), 0 ≤ i → i + d = n → (out.length : Int) ≤ i → Ev (L i out) (fin (out ++ idxF p d i))
  | 0, i, out, h0, hd, hl => by
    have e : i = n := by omega
    subst e
    simp only [idxF, List.append_nil]
    exact h3 out hl
  | d + 1, i, out, h0, hd, hl => by
    unfold idxF
    cases hp : p i with
    | true =>
      refine h1 i out h0 (by omega) hl hp _ ?_
      have := ev_filter h1 h2 h3 d (i + 1) (out ++ [i]) (by omega) (by omega) (by simp; omega)
      simpa using this
    | false =>
      refine h2 i out h0 (by omega) hl hp _ ?_
      have := ev_filter h1 h2 h3 d (i + 1) out (by omega) (by omega) (by omega)
      simpa using this
theorem mx_eq (a b : Int) : mx a b = max a b := by
  unfold mx
  omega
/-- A module's own numbers are right at its place. -/
def PM (l : List S47) (i : Int) : Prop := 0 ≤ (rd_T47 l i).f1 ∧ (rd_T47 l i).f1 ≤ 32 ∧ (i = 0 → (rd_T47 l i).f0 = -1) ∧ (0 < i → 0 ≤ (rd_T47 l i).f0 ∧ (rd_T47 l i).f0 ≤ i - 1)
def PMods (l : List S47) : Prop := 1 ≤ l.length ∧ l.length ≤ 12 ∧ ∀ j : Int, 0 ≤ j → j < l.length → PM l j
theorem spec_AreModules_ev (l : List S47) (hn : l.length ≤ 140737488351232) : Ev (fun k => spec_AreModules.f k l) (tt (PMods l)) := by
  unfold spec_AreModules.f
  have := ev_all (L := fun i k => spec_AreModules.l0 k l i) (P := PM l) (n := l.length) (fin := decide (1 ≤ l.length ∧ l.length ≤ 12)) (fun i h0 h1 hp r hr => ?_) (fun i h0 h1 hp => ?_) ?_ l.length 0 (by omega) (by omega)
  · refine Ev_eq this ?_
    rw [← tt_dec, tt_and]
    exact tt_iff ⟨fun h => ⟨h.1.1, h.1.2, fun j h0 h1 => h.2 j h0 h1⟩, fun h => ⟨⟨h.1, h.2.1⟩, fun j h0 h1 => h.2.2 j h0 h1⟩⟩
  · refine Ev_shift ?_
    unfold PM at hp
    simp only [spec_AreModules.l0, if_pos h1, if_pos h0, l01In_eq, Option.bind_some]
    simp only [decide_eq_true_eq]
    simp only [if_pos (And.intro hp.1 hp.2.1)]
    rw [w64 (n := i + 1) (by omega)]
    by_cases h : i = 0
    · simp only [if_pos h, if_pos (hp.2.2.1 h), if_neg (show ¬ i > 0 by omega)]
      exact hr
    · simp only [if_neg h, if_pos (show i > 0 by omega), w64 (n := i - 1) (by omega)]
      have := hp.2.2.2 (by omega)
      simp only [if_pos this]
      exact hr
  · refine Ev_shift ?_
    unfold PM at hp
    simp only [spec_AreModules.l0, if_pos h1, if_pos h0, l01In_eq, Option.bind_some]
    simp only [decide_eq_true_eq]
    by_cases hq : 0 ≤ (rd_T47 l i).f1 ∧ (rd_T47 l i).f1 ≤ 32
    · simp only [if_pos hq]
      by_cases h : i = 0
      · by_cases h2 : (rd_T47 l i).f0 = -1
        · exact absurd ⟨hq.1, hq.2, fun _ => h2, fun h => by omega⟩ hp
        · simp only [if_pos h, if_neg h2]
          exact Ev.now _
      · simp only [if_neg h, if_pos (show i > 0 by omega), w64 (n := i - 1) (by omega)]
        by_cases h2 : 0 ≤ (rd_T47 l i).f0 ∧ (rd_T47 l i).f0 ≤ i - 1
        · exact absurd ⟨hq.1, hq.2, fun h => by omega, fun _ => h2⟩ hp
        · simp only [if_neg h2]
          exact Ev.now _
    · simp only [if_neg hq]
      exact Ev.now _
  · refine Ev_shift ?_
    simp only [spec_AreModules.l0, if_neg (show ¬ (l.length : Int) < l.length by omega), l01In_eq, Option.bind_some]
    exact Ev_some (by congr 1; exact propext ⟨fun h => by omega, fun h => by omega⟩)
theorem impl_AreModules_l0 (l : List S47) (hn : l.length ≤ 140737488351232) (hz : (rd_T47 l 0).f0 = -1) : Ev (fun k => impl_AreModules.l0 k l l.length 0) (tt (∀ j : Int, 0 ≤ j → j < l.length → PM l j)) := by
  have := ev_all (L := fun i k => impl_AreModules.l0 k l l.length i) (P := PM l) (n := l.length) (fin := true) (fun i h0 h1 hp r hr => ?_) (fun i h0 h1 hp => ?_) ?_ l.length 0 (by omega) (by omega)
  · refine Ev_eq this ?_
    rw [Bool.true_and]
  · refine Ev_shift ?_
    unfold PM at hp
    simp only [impl_AreModules.l0, if_pos h1, if_pos h0, within_eq, Option.bind_some]
    simp only [decide_eq_true_eq]
    simp only [if_pos (And.intro hp.1 hp.2.1)]
    rw [w64 (n := i + 1) (by omega)]
    by_cases h : i = 0
    · simp only [if_neg (show ¬ i > 0 by omega)]
      exact hr
    · simp only [if_pos (show i > 0 by omega), w64 (n := i - 1) (by omega)]
      have := hp.2.2.2 (by omega)
      simp only [if_pos this]
      exact hr
  · refine Ev_shift ?_
    unfold PM at hp
    simp only [impl_AreModules.l0, if_pos h1, if_pos h0, within_eq, Option.bind_some]
    simp only [decide_eq_true_eq]
    by_cases hq : 0 ≤ (rd_T47 l i).f1 ∧ (rd_T47 l i).f1 ≤ 32
    · simp only [if_pos hq]
      by_cases h : i = 0
      · exact absurd ⟨hq.1, hq.2, fun h => by rw [h]; exact hz, fun h => by omega⟩ hp
      · simp only [if_pos (show i > 0 by omega), w64 (n := i - 1) (by omega)]
        by_cases h2 : 0 ≤ (rd_T47 l i).f0 ∧ (rd_T47 l i).f0 ≤ i - 1
        · exact absurd ⟨hq.1, hq.2, fun h => by omega, fun _ => h2⟩ hp
        · simp only [if_neg h2]
          exact Ev.now _
    · simp only [if_neg hq]
      exact Ev.now _
  · refine Ev_shift ?_
    simp only [impl_AreModules.l0, if_neg (show ¬ (l.length : Int) < l.length by omega)]
    exact Ev.now _
theorem impl_AreModules_ev (l : List S47) (hn : l.length ≤ 140737488351232) : Ev (fun k => impl_AreModules.f k l) (tt (PMods l)) := by
  unfold impl_AreModules.f
  have bad : ∀ {q : Prop}, ¬ q → (q ↔ PMods l) → Ev (fun k => impl_AreModules.j0 k l true) (tt (PMods l)) := by
    intro q hq e
    refine Ev_shift ?_
    simp only [impl_AreModules.j0, if_true]
    exact Ev_some (tt_neg (fun h => hq (e.2 h))).symm
  by_cases h1 : (l.length : Int) < 1
  · simp only [if_pos h1]
    exact bad (q := False) (fun h => h) ⟨fun h => h.elim, fun h => by have := h.1; omega⟩
  · simp only [if_neg h1]
    by_cases h2 : (l.length : Int) > 12
    · simp only [if_pos h2]
      exact bad (q := False) (fun h => h) ⟨fun h => h.elim, fun h => by have := h.2.1; omega⟩
    · simp only [if_neg h2, if_pos (show 0 < (l.length : Int) by omega)]
      by_cases hz : (rd_T47 l 0).f0 = -1
      · rw [hz]
        refine Ev_shift ?_
        simp only [impl_AreModules.j0, bne_self_eq_false, Bool.false_eq_true, if_false]
        refine Ev_eq (impl_AreModules_l0 l hn hz) (tt_iff ⟨fun h => ⟨by omega, by omega, h⟩, fun h => h.2.2⟩)
      · have e : ((rd_T47 l 0).f0 != -1) = true := by simpa using hz
        rw [e]
        exact bad (q := False) (fun h => h) ⟨fun h => h.elim, fun h => hz ((h.2.2 0 (by omega) (by omega)).2.2.1 rfl)⟩
theorem parent_lt {l : List S47} (h : PMods l) {m : Int} (h0 : 0 ≤ m) (h1 : m < l.length) : -1 ≤ (rd_T47 l m).f0 ∧ (rd_T47 l m).f0 < m := by
  have := h.2.2 m h0 h1
  unfold PM at this
  by_cases e : m = 0
  · have := this.2.2.1 e
    omega
  · have := this.2.2.2 (by omega)
    omega
/-- A module and all above it. -/
def wayF (l : List S47) : Nat → Int → List Int
  | 0, _ => []
  | n + 1, m => if 0 ≤ m then m :: wayF l n (rd_T47 l m).f0 else []
theorem wayF_length (l : List S47) : ∀ (n : Nat) (m : Int), (wayF l n m).length ≤ n
  | 0, _ => Nat.le_refl _
  | n + 1, m => by
    unfold wayF
    split
    · simp only [List.length_cons]
      have := wayF_length l n (rd_T47 l m).f0
      omega
    · simp
theorem spec_way_l0 {l : List S47} (h : PMods l) : ∀ (n : Nat) (m : Int) (out : List Int), -1 ≤ m → m < l.length → m + 1 ≤ n → out.length + n ≤ 1000 → Ev (fun k => spec_l12Way.l0 k l m out) (out ++ wayF l n m)
  | 0, m, out, h0, h1, h2, h3 => by
    refine Ev_shift ?_
    simp only [spec_l12Way.l0, if_neg (show ¬ m ≥ 0 by omega)]
    exact Ev_some (by simp [wayF])
  | n + 1, m, out, h0, h1, h2, h3 => by
    refine Ev_shift ?_
    by_cases hm : m ≥ 0
    · have hp := parent_lt h hm h1
      simp only [spec_l12Way.l0, if_pos hm, if_pos (show out.length < 17592186044416 by omega), if_pos (show 0 ≤ m from hm), if_pos h1]
      refine Ev_eq (spec_way_l0 h n _ (out ++ [m]) hp.1 (by omega) (by omega) (by simp; omega)) ?_
      simp [wayF, hm]
    · simp only [spec_l12Way.l0, if_neg hm]
      exact Ev_some (by simp [wayF, show ¬ 0 ≤ m from hm])
theorem spec_way {l : List S47} (h : PMods l) {m : Int} (h0 : 0 ≤ m) (h1 : m < l.length) : Ev (fun k => spec_l12Way.f k l m) (wayF l 12 m) := by
  unfold spec_l12Way.f
  have := h.2.1
  exact spec_way_l0 h 12 m [] (by omega) h1 (by omega) (by simp)
theorem isIndex_eq {a n : Int} (hn : 0 ≤ n ∧ n ≤ 140737488351232) : impl_isIndex.f a n = some (decide (0 ≤ a ∧ a < n)) := by
  unfold impl_isIndex.f
  rw [w64 (by omega), within_eq, Option.bind_some]
  congr 1
  exact decide_eq_decide.2 ⟨fun h => by omega, fun h => by omega⟩
theorem way_mem_step {l : List S47} (h : PMods l) {n : Nat} {m x : Int} (h0 : 0 ≤ m) (h1 : m < l.length) : x ∈ wayF l (n + 1) m ↔ x = m ∨ x ∈ wayF l n (rd_T47 l m).f0 := by
  show x ∈ (if 0 ≤ m then m :: wayF l n (rd_T47 l m).f0 else []) ↔ _
  rw [if_pos h0]
  simp
theorem way_more {l : List S47} (h : PMods l) : ∀ (n k : Nat) (m : Int), -1 ≤ m → m < l.length → m + 1 ≤ n → n ≤ k → wayF l k m = wayF l n m
  | 0, 0, m, _, _, _, _ => rfl
  | 0, k + 1, m, h0, h1, h2, h3 => by
    unfold wayF
    rw [if_neg (by omega)]
  | n + 1, 0, m, h0, h1, h2, h3 => by omega
  | n + 1, k + 1, m, h0, h1, h2, h3 => by
    unfold wayF
    split
    · rename_i hm
      have hp := parent_lt h hm h1
      rw [way_more h n k _ hp.1 (by omega) (by omega) (by omega)]
    · rfl
theorem has_l0 (l : List Int) (hn : l.length ≤ 140737488351232) (x : Int) : ∀ (s : List Int) (i : Int), 0 ≤ i → l.drop i.toNat = s → Ev (fun k => spec_l01Has.l0 k l x i) (decide (x ∈ s))
  | [], i, h0, h => by
    refine Ev_shift ?_
    simp only [spec_l01Has.l0, if_neg (drop_nil h0 h)]
    exact Ev_some (by simp)
  | a :: s, i, h0, h => by
    refine Ev_shift ?_
    obtain ⟨h1, h2, h3⟩ := drop_cons 0 h0 h
    have h2' : rd l i = a := h2
    by_cases e : a = x
    · simp only [spec_l01Has.l0, if_pos h1, if_pos h0, h2', if_pos e]
      exact Ev_some (by simp [e])
    · simp only [spec_l01Has.l0, if_pos h1, if_pos h0, h2', if_neg e, w64 (n := i + 1) (by omega)]
      refine Ev_eq (has_l0 l hn x s (i + 1) (by omega) h3) ?_
      simp [Ne.symm e]
theorem has_ev (l : List Int) (hn : l.length ≤ 140737488351232) (x : Int) : Ev (fun k => spec_l01Has.f k l x) (decide (x ∈ l)) := by
  unfold spec_l01Has.f
  exact has_l0 l hn x l 0 (by omega) rfl
/-- Is i the module or below it? -/
def belowP (l : List S47) (m : Int) (i : Int) : Bool := decide (m ∈ wayF l 12 i)
theorem spec_below {l : List S47} (h : PMods l) (m : Int) : Ev (fun k => spec_l12Below.f k l m) (idxF (belowP l m) l.length 0) := by
  unfold spec_l12Below.f
  have hl := h.2.1
  have := ev_filter (L := fun i out k => spec_l12Below.l0 k l m out i) (p := belowP l m) (n := l.length) (fin := fun out => out)
    (fun i out h0 h1 h2 hp r hr => by
      refine Ev_shift ?_
      simp only [spec_l12Below.l0, if_pos h1]
      refine Ev.bind (spec_way h h0 h1) ?_
      refine Ev.bind (has_ev (wayF l 12 i) (by have := wayF_length l 12 i; omega) m) ?_
      have hp' : decide (m ∈ wayF l 12 i) = true := hp
      simp only [hp', if_true, if_pos (show out.length < 17592186044416 by omega), w64 (n := i + 1) (by omega)]
      exact hr)
    (fun i out h0 h1 h2 hp r hr => by
      refine Ev_shift ?_
      simp only [spec_l12Below.l0, if_pos h1]
      refine Ev.bind (spec_way h h0 h1) ?_
      refine Ev.bind (has_ev (wayF l 12 i) (by have := wayF_length l 12 i; omega) m) ?_
      have hp' : decide (m ∈ wayF l 12 i) = false := hp
      simp only [hp', Bool.false_eq_true, if_false, w64 (n := i + 1) (by omega)]
      exact hr)
    (fun out h2 => by
      refine Ev_shift ?_
      simp only [spec_l12Below.l0, if_neg (show ¬ (l.length : Int) < l.length by omega)]
      exact Ev.now _) l.length 0 [] (by omega) (by omega) (by simp)
  exact this
theorem below_step {l : List S47} (h : PMods l) {m i : Int} (h0 : 0 ≤ i) (h1 : i < l.length) : belowP l m i = (decide (m = i) || (decide (0 ≤ (rd_T47 l i).f0) && belowP l m (rd_T47 l i).f0)) := by
  have hl := h.2.1
  have hp := parent_lt h h0 h1
  unfold belowP
  rw [← way_more h 12 14 i (by omega) h1 (by omega) (by omega), ← way_more h 12 13 (rd_T47 l i).f0 hp.1 (by omega) (by omega) (by omega)]
  have := way_mem_step (n := 13) (x := m) h h0 h1
  by_cases hz : 0 ≤ (rd_T47 l i).f0
  · simp [this, hz]
  · have e : wayF l 13 (rd_T47 l i).f0 = [] := by
      show (if 0 ≤ (rd_T47 l i).f0 then _ else _) = _
      rw [if_neg hz]
    rw [e] at this ⊢
    simp only [this]
    simp [hz]
theorem rdb_set (y : List Bool) (i j : Int) (v : Bool) (h0 : 0 ≤ i) (h1 : i < y.length) (j0 : 0 ≤ j) (j1 : j < y.length) : rdOf false (y.set i.toNat v) j = if j = i then v else rdOf false y j := by
  unfold rdOf
  rw [List.getD_eq_getElem?_getD, List.getD_eq_getElem?_getD, List.getElem?_set]
  by_cases e : j = i
  · subst e
    rw [if_pos rfl, if_pos rfl, if_pos (by omega)]
    rfl
  · rw [if_neg (by omega), if_neg e]
theorem impl_below_l0 {l : List S47} (h : PMods l) (m : Int) : ∀ (d : Nat) (i : Int) (y : List Bool), 0 ≤ i → i + d = l.length → y.length = l.length → (∀ j : Int, 0 ≤ j → j < l.length → rdOf false y j = if j < i then belowP l m j else decide (m = j)) →
    ∃ y', y'.length = l.length ∧ (∀ j : Int, 0 ≤ j → j < l.length → rdOf false y' j = belowP l m j) ∧ Ev (fun k => impl_isBelow.l0 k y l l.length i) y'
  | 0, i, y, h0, hd, hy, hj => by
    refine ⟨y, hy, fun j j0 j1 => ?_, Ev_shift ?_⟩
    · rw [hj j j0 j1, if_pos (by omega)]
    · simp only [impl_isBelow.l0, if_neg (show ¬ i < (l.length : Int) by omega)]
      exact Ev.now _
  | d + 1, i, y, h0, hd, hy, hj => by
    have hl := h.2.1
    have h1 : i < (l.length : Int) := by omega
    have hp := parent_lt h h0 h1
    have hb := below_step (m := m) h h0 h1
    have w := w64 (n := i + 1) (by omega)
    by_cases hz : (rd_T47 l i).f0 ≥ 0
    · have hpy := hj (rd_T47 l i).f0 hz (by omega)
      rw [if_pos (by omega)] at hpy
      by_cases hbp : belowP l m (rd_T47 l i).f0 = true
      · obtain ⟨y', a, b, c⟩ := impl_below_l0 h m d (i + 1) (y.set i.toNat true) (by omega) (by omega) (by simpa using hy) (fun j j0 j1 => by
          rw [rdb_set y i j true h0 (by omega) j0 (by omega)]
          by_cases e : j = i
          · rw [if_pos e, if_pos (by omega), e, hb, hbp]
            simp [show 0 ≤ (rd_T47 l i).f0 from hz]
          · rw [if_neg e, hj j j0 j1]
            by_cases g : j < i
            · rw [if_pos g, if_pos (by omega)]
            · rw [if_neg g, if_neg (by omega)])
        refine ⟨y', a, b, Ev_shift ?_⟩
        simp only [impl_isBelow.l0, if_pos h1, if_pos h0, if_pos hz, if_pos (show 0 ≤ (rd_T47 l i).f0 from hz), if_pos (show (rd_T47 l i).f0 < (y.length : Int) by omega), hpy, hbp, if_true, if_pos (show i < (y.length : Int) by omega), w]
        exact c
      · have hbp' : belowP l m (rd_T47 l i).f0 = false := by simpa using hbp
        obtain ⟨y', a, b, c⟩ := impl_below_l0 h m d (i + 1) y (by omega) (by omega) hy (fun j j0 j1 => by
          rw [hj j j0 j1]
          by_cases e : j = i
          · rw [if_neg (by omega), if_pos (by omega), e, hb, hbp']
            simp
          · by_cases g : j < i
            · rw [if_pos g, if_pos (by omega)]
            · rw [if_neg g, if_neg (by omega)])
        refine ⟨y', a, b, Ev_shift ?_⟩
        simp only [impl_isBelow.l0, if_pos h1, if_pos h0, if_pos hz, if_pos (show 0 ≤ (rd_T47 l i).f0 from hz), if_pos (show (rd_T47 l i).f0 < (y.length : Int) by omega), hpy, hbp', Bool.false_eq_true, if_false, w]
        exact c
    · obtain ⟨y', a, b, c⟩ := impl_below_l0 h m d (i + 1) y (by omega) (by omega) hy (fun j j0 j1 => by
        rw [hj j j0 j1]
        by_cases e : j = i
        · rw [if_neg (by omega), if_pos (by omega), e, hb]
          simp [show ¬ 0 ≤ (rd_T47 l i).f0 from hz]
        · by_cases g : j < i
          · rw [if_pos g, if_pos (by omega)]
          · rw [if_neg g, if_neg (by omega)])
      refine ⟨y', a, b, Ev_shift ?_⟩
      simp only [impl_isBelow.l0, if_pos h1, if_pos h0, if_neg hz, w]
      exact c
theorem impl_below {l : List S47} (h : PMods l) {m : Int} (m0 : 0 ≤ m) (m1 : m < l.length) : ∃ y : List Bool, y.length = l.length ∧ (∀ j : Int, 0 ≤ j → j < l.length → rdOf false y j = belowP l m j) ∧ Ev (fun k => impl_isBelow.f k l m) y := by
  have hl := h.2.1
  obtain ⟨y, a, b, c⟩ := impl_below_l0 h m l.length 0 ((List.replicate l.length false).set m.toNat true) (by omega) (by omega) (by simp) (fun j j0 j1 => by
    rw [rdb_set _ m j true m0 (by simp; omega) j0 (by simp; omega), if_neg (show ¬ j < 0 by omega)]
    by_cases e : j = m
    · rw [if_pos e, e]
      simp
    · rw [if_neg e, decide_eq_false (fun hh => e hh.symm)]
      unfold rdOf
      rw [List.getD_eq_getElem?_getD, List.getElem?_replicate]
      split <;> rfl)
  refine ⟨y, a, b, ?_⟩
  unfold impl_isBelow.f
  simp only [if_pos (show 0 ≤ (l.length : Int) by omega), Int.toNat_natCast, if_pos (show l.length ≤ 281474976710656 by omega), Option.bind_some, if_pos m0, if_pos (show m < ((List.replicate l.length false).length : Int) by simp; omega)]
  exact c
theorem idxF_mem (p : Int → Bool) : ∀ (d : Nat) (i x : Int), x ∈ idxF p d i ↔ i ≤ x ∧ x < i + d ∧ p x = true
  | 0, i, x => by simp [idxF]; omega
  | d + 1, i, x => by
    unfold idxF
    have ih := idxF_mem p d (i + 1) x
    by_cases hp : p i = true
    · rw [if_pos hp, List.mem_cons, ih]
      constructor
      · rintro (rfl | h)
        · exact ⟨by omega, by omega, hp⟩
        · exact ⟨by omega, by omega, h.2.2⟩
      · rintro ⟨a, b, c⟩
        by_cases e : x = i
        · exact .inl e
        · exact .inr ⟨by omega, by omega, c⟩
    · rw [if_neg hp, ih]
      constructor
      · rintro ⟨a, b, c⟩
        exact ⟨by omega, by omega, c⟩
      · rintro ⟨a, b, c⟩
        by_cases e : x = i
        · rw [e] at c
          exact absurd c hp
        · exact ⟨by omega, by omega, c⟩
theorem ev_allI {L : Int → Nat → Option Bool} {Q : Int → Prop} {n : Int} {fin : Bool} (h1 : ∀ i, 0 ≤ i → i < n → (∀ j, 0 ≤ j → j < i → Q j) → Q i → ∀ r, Ev (L (i + 1)) r → Ev (L i) r) (h2 : ∀ i, 0 ≤ i → i < n → (∀ j, 0 ≤ j → j < i → Q j) → ¬ Q i → Ev (L i) false) (h3 : Ev (L n) fin) :
    ∀ (d : Nat) (i : Int), 0 ≤ i → i + d = n → (∀ j, 0 ≤ j → j < i → Q j) → Ev (L i) (fin && tt (∀ j, i ≤ j → j < n → Q j))
  | 0, i, h0, hd, hp => by
    have e : i = n := by omega
    rw [e, tt_pos (fun j h1 h2 => by omega), Bool.and_true]
    exact h3
  | d + 1, i, h0, hd, hp => by
    by_cases hq : Q i
    · have := h1 i h0 (by omega) hp hq _ (ev_allI h1 h2 h3 d (i + 1) (by omega) (by omega) (fun j j0 j1 => by
        by_cases e : j = i
        · rw [e]; exact hq
        · exact hp j j0 (by omega)))
      refine Ev_eq this ?_
      congr 1
      exact tt_iff ⟨fun h j h1 h2 => by
        by_cases e : j = i
        · rw [e]; exact hq
        · exact h j (by omega) h2, fun h j h1 h2 => h j (by omega) h2⟩
    · rw [tt_neg (fun h => hq (h i (Int.le_refl _) (by omega))), Bool.and_false]
      exact h2 i h0 (by omega) hp hq
/-- Wires. -/
def MW (w : List S141) (m p j : Int) : Prop := (rd_T141 w j).f1 = m ∧ (rd_T141 w j).f2 = p
def PPin (l : List S47) (m p : Int) : Prop := (0 ≤ m ∧ m ≤ (l.length : Int) - 1) ∧ 0 ≤ p ∧ p ≤ (rd_T47 l m).f1 - 1
def QW (l : List S47) (n : Int) (w : List S141) (i : Int) : Prop :=
  (0 ≤ (rd_T141 w i).f0 ∧ (rd_T141 w i).f0 ≤ n - 1) ∧ PPin l (rd_T141 w i).f1 (rd_T141 w i).f2 ∧ (0 < i → (rd_T141 w (i - 1)).f0 < (rd_T141 w i).f0) ∧ ∀ j : Int, 0 ≤ j → j < i → ¬ MW w (rd_T141 w i).f1 (rd_T141 w i).f2 j
def PWires (l : List S47) (n : Int) (w : List S141) : Prop := PMods l ∧ (0 ≤ n ∧ n ≤ 20) ∧ ∀ i : Int, 0 ≤ i → i < w.length → QW l n w i
theorem spec_l13At_l0 (w : List S141) (hn : w.length ≤ 2000000) (m p : Int) : ∀ (d : Nat) (i : Int), 0 ≤ i → i + d = w.length → (∀ j : Int, 0 ≤ j → j < i → ¬ MW w m p j) → ∃ r, Ev (fun k => spec_l13At.l0 k w m p i) r ∧ ((r = -1 ∧ ∀ j : Int, 0 ≤ j → j < w.length → ¬ MW w m p j) ∨ (0 ≤ r ∧ r < w.length ∧ MW w m p r ∧ ∀ j : Int, 0 ≤ j → j < r → ¬ MW w m p j))
  | 0, i, h0, hd, hp => by
    refine ⟨-1, Ev_shift ?_, .inl ⟨rfl, fun j j0 j1 => hp j j0 (by omega)⟩⟩
    simp only [spec_l13At.l0, if_neg (show ¬ i < (w.length : Int) by omega)]
    exact Ev.now _
  | d + 1, i, h0, hd, hp => by
    have hi : i < (w.length : Int) := by omega
    have more : ¬ MW w m p i → ∃ r, Ev (fun k => spec_l13At.l0 k w m p (i + 1)) r ∧ ((r = -1 ∧ ∀ j : Int, 0 ≤ j → j < w.length → ¬ MW w m p j) ∨ (0 ≤ r ∧ r < w.length ∧ MW w m p r ∧ ∀ j : Int, 0 ≤ j → j < r → ¬ MW w m p j)) := fun hm => spec_l13At_l0 w hn m p d (i + 1) (by omega) (by omega) (fun j j0 j1 => by
      by_cases e : j = i
      · rw [e]; exact hm
      · exact hp j j0 (by omega))
    by_cases c1 : (rd_T141 w i).f1 = m
    · by_cases c2 : (rd_T141 w i).f2 = p
      · refine ⟨i, Ev_shift ?_, .inr ⟨h0, hi, ⟨c1, c2⟩, hp⟩⟩
        simp only [spec_l13At.l0, if_pos hi, if_pos h0, if_pos c1, if_pos c2]
        exact Ev.now _
      · obtain ⟨r, e, hr⟩ := more (fun h => c2 h.2)
        refine ⟨r, Ev_shift ?_, hr⟩
        simp only [spec_l13At.l0, if_pos hi, if_pos h0, if_pos c1, if_neg c2, w64 (n := i + 1) (by omega)]
        exact e
    · obtain ⟨r, e, hr⟩ := more (fun h => c1 h.1)
      refine ⟨r, Ev_shift ?_, hr⟩
      simp only [spec_l13At.l0, if_pos hi, if_pos h0, if_neg c1, w64 (n := i + 1) (by omega)]
      exact e
theorem spec_l13At_ev (w : List S141) (hn : w.length ≤ 2000000) (m p : Int) : ∃ r, Ev (fun k => spec_l13At.f k w m p) r ∧ ((r = -1 ∧ ∀ j : Int, 0 ≤ j → j < w.length → ¬ MW w m p j) ∨ (0 ≤ r ∧ r < w.length ∧ MW w m p r ∧ ∀ j : Int, 0 ≤ j → j < r → ¬ MW w m p j)) := by
  unfold spec_l13At.f
  exact spec_l13At_l0 w hn m p w.length 0 (by omega) (by omega) (fun j j0 j1 => by omega)
theorem impl_cueAt_l0 (w : List S141) (hn : w.length ≤ 2000000) (m p : Int) : ∀ (d : Nat) (i : Int), 0 ≤ i → i + d = w.length → (∀ j : Int, 0 ≤ j → j < i → ¬ MW w m p j) → ∃ r, Ev (fun k => impl_cueAt.l0 k m p w w.length i) r ∧ ((r = -1 ∧ ∀ j : Int, 0 ≤ j → j < w.length → ¬ MW w m p j) ∨ ∃ q : Int, 0 ≤ q ∧ q < w.length ∧ MW w m p q ∧ r = (rd_T141 w q).f0)
  | 0, i, h0, hd, hp => by
    refine ⟨-1, Ev_shift ?_, .inl ⟨rfl, fun j j0 j1 => hp j j0 (by omega)⟩⟩
    simp only [impl_cueAt.l0, if_neg (show ¬ i < (w.length : Int) by omega)]
    exact Ev.now _
  | d + 1, i, h0, hd, hp => by
    have hi : i < (w.length : Int) := by omega
    have more : ¬ MW w m p i → ∃ r, Ev (fun k => impl_cueAt.l0 k m p w w.length (i + 1)) r ∧ ((r = -1 ∧ ∀ j : Int, 0 ≤ j → j < w.length → ¬ MW w m p j) ∨ ∃ q : Int, 0 ≤ q ∧ q < w.length ∧ MW w m p q ∧ r = (rd_T141 w q).f0) := fun hm => impl_cueAt_l0 w hn m p d (i + 1) (by omega) (by omega) (fun j j0 j1 => by
      by_cases e : j = i
      · rw [e]; exact hm
      · exact hp j j0 (by omega))
    by_cases c1 : (rd_T141 w i).f1 = m
    · by_cases c2 : (rd_T141 w i).f2 = p
      · refine ⟨_, Ev_shift ?_, .inr ⟨i, h0, hi, ⟨c1, c2⟩, rfl⟩⟩
        simp only [impl_cueAt.l0, if_pos hi, if_pos h0, if_pos c1, if_pos c2]
        exact Ev.now _
      · obtain ⟨r, e, hr⟩ := more (fun h => c2 h.2)
        refine ⟨r, Ev_shift ?_, hr⟩
        simp only [impl_cueAt.l0, if_pos hi, if_pos h0, if_pos c1, if_neg c2, w64 (n := i + 1) (by omega)]
        exact e
    · obtain ⟨r, e, hr⟩ := more (fun h => c1 h.1)
      refine ⟨r, Ev_shift ?_, hr⟩
      simp only [impl_cueAt.l0, if_pos hi, if_pos h0, if_neg c1, w64 (n := i + 1) (by omega)]
      exact e
theorem impl_cueAt_ev (w : List S141) (hn : w.length ≤ 2000000) (m p : Int) : ∃ r, Ev (fun k => impl_cueAt.f k w m p) r ∧ ((r = -1 ∧ ∀ j : Int, 0 ≤ j → j < w.length → ¬ MW w m p j) ∨ ∃ q : Int, 0 ≤ q ∧ q < w.length ∧ MW w m p q ∧ r = (rd_T141 w q).f0) := by
  unfold impl_cueAt.f
  exact impl_cueAt_l0 w hn m p w.length 0 (by omega) (by omega) (fun j j0 j1 => by omega)
theorem spec_pin_eq {l : List S47} (h : PMods l) (m p : Int) : spec_l13Pin.f l m p = some (tt (PPin l m p)) := by
  have hl := h.2.1
  unfold spec_l13Pin.f
  rw [w64 (n := (l.length : Int) - 1) (by omega), l01In_eq, Option.bind_some]
  by_cases c : 0 ≤ m ∧ m ≤ (l.length : Int) - 1
  · have hp := h.2.2 m c.1 (by omega)
    unfold PM at hp
    rw [decide_eq_true c, if_pos rfl, if_pos c.1, if_pos (by omega), w64 (n := (rd_T47 l m).f1 - 1) (by omega), l01In_eq, Option.bind_some, ← tt_dec]
    congr 1
    exact tt_iff ⟨fun h => ⟨c, h⟩, fun h => h.2⟩
  · rw [decide_eq_false c, if_neg (by decide), tt_neg (fun h => c h.1)]
theorem impl_pin_eq {l : List S47} (h : PMods l) (m p : Int) : impl_isPin.f l m p = some (tt (PPin l m p)) := by
  have hl := h.2.1
  unfold impl_isPin.f impl_isIndex.f
  rw [w64 (n := (l.length : Int) - 1) (by omega), within_eq, Option.bind_some, Option.bind_some]
  by_cases c : 0 ≤ m ∧ m ≤ (l.length : Int) - 1
  · have hp := h.2.2 m c.1 (by omega)
    unfold PM at hp
    rw [decide_eq_true c, if_pos rfl, if_pos c.1, if_pos (by omega), w64 (n := (rd_T47 l m).f1 - 1) (by omega), within_eq, Option.bind_some, ← tt_dec]
    congr 1
    exact tt_iff ⟨fun h => ⟨c, h⟩, fun h => h.2⟩
  · rw [decide_eq_false c, if_neg (by decide), tt_neg (fun h => c h.1)]
theorem spec_AreWires_ev (l : List S47) (hl : l.length ≤ 1000000) (n : Int) (w : List S141) (hn : w.length ≤ 1000000) : Ev (fun k => spec_AreWires.f k l n w) (tt (PWires l n w)) := by
  have hs := spec_AreModules_ev l (by omega)
  have bad : ¬ PWires l n w → Ev (fun k => spec_AreWires.j0 k l n w true) (tt (PWires l n w)) := fun h => by
    refine Ev_shift ?_
    simp only [spec_AreWires.j0, if_true]
    exact Ev_some (tt_neg h).symm
  unfold spec_AreWires.f
  refine Ev.bind hs ?_
  by_cases h : PMods l
  · by_cases c : 0 ≤ n ∧ n ≤ 20
    · simp only [tt_pos h, if_true, l01In_eq, Option.bind_some, decide_eq_true c, Bool.not_true]
      refine Ev_shift ?_
      simp only [spec_AreWires.j0, Bool.false_eq_true, if_false]
      have := ev_allI (L := fun i k => spec_AreWires.l0 k l n w i) (Q := QW l n w) (n := w.length) (fin := true)
        (fun i h0 h1 hp hq r hr => by
          have hc := hq.1
          obtain ⟨z, ez, hz⟩ := spec_l13At_ev w (by omega) (rd_T141 w i).f1 (rd_T141 w i).f2
          have e : z = i := by
            rcases hz with ⟨_, hz⟩ | ⟨z0, z1, zm, hz⟩
            · exact absurd ⟨rfl, rfl⟩ (hz i h0 h1)
            · rcases Int.lt_or_le z i with g | g
              · exact absurd zm (hq.2.2.2 z z0 g)
              · rcases Int.lt_or_le i z with g2 | g2
                · exact absurd ⟨rfl, rfl⟩ (hz i h0 g2)
                · omega
          refine Ev_shift ?_
          simp only [spec_AreWires.l0, if_pos h1, if_pos h0, w64 (n := n - 1) (by omega), l01In_eq, Option.bind_some, decide_eq_true_eq, if_pos hc, spec_pin_eq h, tt_pos hq.2.1, if_true, w64 (n := i + 1) (by omega)]
          by_cases hi : i > 0
          · have := hq.2.2.1 hi
            simp only [if_pos hi, w64 (n := i - 1) (by omega), if_pos (show 0 ≤ i - 1 by omega), if_pos (show i - 1 < (w.length : Int) by omega), if_neg (show ¬ (rd_T141 w (i - 1)).f0 ≥ (rd_T141 w i).f0 by omega)]
            refine Ev.bind ez ?_
            simp only [if_pos e]
            exact hr
          · simp only [if_neg hi]
            refine Ev.bind ez ?_
            simp only [if_pos e]
            exact hr)
        (fun i h0 h1 hp hq => by
          obtain ⟨z, ez, hz⟩ := spec_l13At_ev w (by omega) (rd_T141 w i).f1 (rd_T141 w i).f2
          refine Ev_shift ?_
          simp only [spec_AreWires.l0, if_pos h1, if_pos h0, w64 (n := n - 1) (by omega), l01In_eq, Option.bind_some, decide_eq_true_eq, spec_pin_eq h, w64 (n := i + 1) (by omega)]
          by_cases q1 : 0 ≤ (rd_T141 w i).f0 ∧ (rd_T141 w i).f0 ≤ n - 1
          · by_cases q2 : PPin l (rd_T141 w i).f1 (rd_T141 w i).f2
            · have last : (0 < i → (rd_T141 w (i - 1)).f0 < (rd_T141 w i).f0) → ¬ z = i := fun q3 e => by
                rcases hz with ⟨g, _⟩ | ⟨z0, z1, zm, hz⟩
                · omega
                · exact hq ⟨q1, q2, q3, fun j j0 j1 => hz j j0 (by omega)⟩
              simp only [if_pos q1, tt_pos q2, if_true]
              by_cases hi : i > 0
              · simp only [if_pos hi, w64 (n := i - 1) (by omega), if_pos (show 0 ≤ i - 1 by omega), if_pos (show i - 1 < (w.length : Int) by omega)]
                by_cases q3 : (rd_T141 w (i - 1)).f0 ≥ (rd_T141 w i).f0
                · simp only [if_pos q3]
                  exact Ev.now _
                · simp only [if_neg q3]
                  refine Ev.bind ez ?_
                  simp only [if_neg (last (fun _ => by omega))]
                  exact Ev.now _
              · simp only [if_neg hi]
                refine Ev.bind ez ?_
                simp only [if_neg (last (fun g => absurd g hi))]
                exact Ev.now _
            · simp only [if_pos q1, tt_neg q2, Bool.false_eq_true, if_false]
              exact Ev.now _
          · simp only [if_neg q1]
            exact Ev.now _)
        (by
          refine Ev_shift ?_
          simp only [spec_AreWires.l0, if_neg (show ¬ (w.length : Int) < w.length by omega)]
          exact Ev.now _) w.length 0 (by omega) (by omega) (fun j j0 j1 => by omega)
      refine Ev_eq this ?_
      rw [Bool.true_and]
      exact tt_iff ⟨fun g => ⟨h, c, fun i i0 i1 => g i i0 i1⟩, fun g i i0 i1 => g.2.2 i i0 i1⟩
    · simp only [tt_pos h, if_true, l01In_eq, Option.bind_some, decide_eq_false c, Bool.not_false]
      exact bad (fun g => c g.2.1)
  · simp only [tt_neg h, Bool.false_eq_true, if_false]
    exact bad (fun g => h g.1)
theorem impl_AreWires_ev (l : List S47) (hl : l.length ≤ 1000000) (n : Int) (w : List S141) (hn : w.length ≤ 1000000) : Ev (fun k => impl_AreWires.f k l n w) (tt (PWires l n w)) := by
  have hs := impl_AreModules_ev l (by omega)
  have bad : ¬ PWires l n w → Ev (fun k => impl_AreWires.j0 k l n w true) (tt (PWires l n w)) := fun h => by
    refine Ev_shift ?_
    simp only [impl_AreWires.j0, if_true]
    exact Ev_some (tt_neg h).symm
  unfold impl_AreWires.f
  refine Ev.bind hs ?_
  by_cases h : PMods l
  · by_cases c : 0 ≤ n ∧ n ≤ 20
    · simp only [tt_pos h, if_true, within_eq, Option.bind_some, decide_eq_true c, Bool.not_true]
      refine Ev_shift ?_
      simp only [impl_AreWires.j0, Bool.false_eq_true, if_false]
      have rt : ∀ (i j : Int), 0 ≤ j → j < i → i < w.length → rd_T141 (w.take i.toNat) j = rd_T141 w j := fun i j j0 j1 i1 => by
        show List.getD _ _ _ = List.getD _ _ _
        rw [List.getD_eq_getElem?_getD, List.getD_eq_getElem?_getD, List.getElem?_take, if_pos (by omega)]
      have look : ∀ i : Int, 0 ≤ i → i < w.length → (∀ j, 0 ≤ j → j < i → QW l n w j) → ∃ z, Ev (fun k => impl_cueAt.f k (w.take i.toNat) (rd_T141 w i).f1 (rd_T141 w i).f2) z ∧ (z ≥ 0 ↔ ¬ ∀ j : Int, 0 ≤ j → j < i → ¬ MW w (rd_T141 w i).f1 (rd_T141 w i).f2 j) := fun i h0 h1 hp => by
        have hlen : ((w.take i.toNat).length : Int) = i := by rw [List.length_take]; omega
        obtain ⟨z, ez, hz⟩ := impl_cueAt_ev (w.take i.toNat) (by rw [List.length_take]; omega) (rd_T141 w i).f1 (rd_T141 w i).f2
        refine ⟨z, ez, ?_⟩
        rw [hlen] at hz
        rcases hz with ⟨rfl, hz⟩ | ⟨q, q0, q1, qm, rfl⟩
        · refine ⟨fun g => by omega, fun g => absurd (fun j j0 j1 hm => hz j j0 j1 ?_) g⟩
          unfold MW at hm ⊢
          rw [rt i j j0 j1 h1]
          exact hm
        · unfold MW at qm
          rw [rt i q q0 q1 h1] at qm ⊢
          have := (hp q q0 q1).1
          exact ⟨fun _ g => g q q0 q1 qm, fun _ => by omega⟩
      have step : ∀ i a b c' , 0 ≤ i → i < (w.length : Int) → a = (rd_T141 w i).f0 → b = (rd_T141 w i).f1 → c' = (rd_T141 w i).f2 → (∀ j, 0 ≤ j → j < i → QW l n w j) → ∀ r, ((∀ j : Int, 0 ≤ j → j < i → ¬ MW w (rd_T141 w i).f1 (rd_T141 w i).f2 j) → Ev (fun k => impl_AreWires.l0 k l n w w w.length (i + 1)) r) → (¬ (∀ j : Int, 0 ≤ j → j < i → ¬ MW w (rd_T141 w i).f1 (rd_T141 w i).f2 j) → r = false) → Ev (fun k => impl_AreWires.j2 k l n w i w w.length i false a b c') r := fun i a b c' h0 h1 ea eb ec hp r hr hf => by
        subst ea eb ec
        obtain ⟨z, ez, hz⟩ := look i h0 h1 hp
        refine Ev_shift ?_
        simp only [impl_AreWires.j2, Bool.false_eq_true, if_false, if_pos h0, if_pos (show i ≤ (w.length : Int) by omega)]
        refine Ev.bind ez ?_
        by_cases g : z ≥ 0
        · simp only [if_pos g]
          exact Ev_some (hf (hz.1 g)).symm
        · simp only [if_neg g, w64 (n := i + 1) (by omega)]
          refine hr ?_
          by_cases y : ∀ j : Int, 0 ≤ j → j < i → ¬ MW w (rd_T141 w i).f1 (rd_T141 w i).f2 j
          · exact y
          · exact absurd (hz.2 y) g
      have no : ∀ i a b c', Ev (fun k => impl_AreWires.j2 k l n w i w w.length i true a b c') false := fun i a b c' => by
        refine Ev_shift ?_
        simp only [impl_AreWires.j2, if_true]
        exact Ev.now _
      have := ev_allI (L := fun i k => impl_AreWires.l0 k l n w w w.length i) (Q := QW l n w) (n := w.length) (fin := true)
        (fun i h0 h1 hp hq r hr => by
          have hc := hq.1
          refine Ev_shift ?_
          simp only [impl_AreWires.l0, if_pos h1, if_pos h0, w64 (n := n - 1) (by omega), within_eq, Option.bind_some, decide_eq_true_eq, if_pos hc, impl_pin_eq h, tt_pos hq.2.1, if_true]
          by_cases hi : i > 0
          · have := hq.2.2.1 hi
            simp only [if_pos hi, w64 (n := i - 1) (by omega), if_pos (show 0 ≤ i - 1 by omega), if_pos (show i - 1 < (w.length : Int) by omega), decide_eq_false (show ¬ (rd_T141 w (i - 1)).f0 ≥ (rd_T141 w i).f0 by omega)]
            exact step i _ _ _ h0 h1 rfl rfl rfl hp r (fun _ => hr) (fun g => absurd hq.2.2.2 g)
          · simp only [if_neg hi]
            exact step i _ _ _ h0 h1 rfl rfl rfl hp r (fun _ => hr) (fun g => absurd hq.2.2.2 g))
        (fun i h0 h1 hp hq => by
          refine Ev_shift ?_
          simp only [impl_AreWires.l0, if_pos h1, if_pos h0, w64 (n := n - 1) (by omega), within_eq, Option.bind_some, decide_eq_true_eq, impl_pin_eq h]
          by_cases q1 : 0 ≤ (rd_T141 w i).f0 ∧ (rd_T141 w i).f0 ≤ n - 1
          · by_cases q2 : PPin l (rd_T141 w i).f1 (rd_T141 w i).f2
            · simp only [if_pos q1, tt_pos q2, if_true]
              by_cases hi : i > 0
              · simp only [if_pos hi, w64 (n := i - 1) (by omega), if_pos (show 0 ≤ i - 1 by omega), if_pos (show i - 1 < (w.length : Int) by omega)]
                by_cases q3 : (rd_T141 w (i - 1)).f0 ≥ (rd_T141 w i).f0
                · simp only [decide_eq_true q3]
                  exact no i _ _ _
                · simp only [decide_eq_false q3]
                  exact step i _ _ _ h0 h1 rfl rfl rfl hp false (fun g => absurd ⟨q1, q2, fun _ => by omega, g⟩ hq) (fun _ => rfl)
              · simp only [if_neg hi]
                exact step i _ _ _ h0 h1 rfl rfl rfl hp false (fun g => absurd ⟨q1, q2, fun g2 => absurd g2 hi, g⟩ hq) (fun _ => rfl)
            · simp only [if_pos q1, tt_neg q2, Bool.false_eq_true, if_false]
              exact no i _ _ _
          · simp only [if_neg q1]
            exact no i _ _ _)
        (by
          refine Ev_shift ?_
          simp only [impl_AreWires.l0, if_neg (show ¬ (w.length : Int) < w.length by omega)]
          exact Ev.now _) w.length 0 (by omega) (by omega) (fun j j0 j1 => by omega)
      refine Ev_eq this ?_
      rw [Bool.true_and]
      exact tt_iff ⟨fun g => ⟨h, c, fun i i0 i1 => g i i0 i1⟩, fun g i i0 i1 => g.2.2 i i0 i1⟩
    · simp only [tt_pos h, if_true, within_eq, Option.bind_some, decide_eq_false c, Bool.not_false]
      exact bad (fun g => c g.2.1)
  · simp only [tt_neg h, Bool.false_eq_true, if_false]
    exact bad (fun g => h g.1)
theorem wcode_ev (l : List S47) (hl : l.length ≤ 1000000) (n : Int) (w : List S141) (hn : w.length ≤ 1000000) (m c : Int) : Ev (fun k => spec_l13Code.f k l n w m c) (if tt (PWires l n w) = true then (if (0 ≤ m ∧ m ≤ (l.length : Int) - 1) ∧ 0 ≤ c ∧ c ≤ max 0 (n - 1) then 0 else 2) else 1) := by
  unfold spec_l13Code.f
  refine Ev.bind (spec_AreWires_ev l hl n w hn) ?_
  by_cases h : PWires l n w
  · have h1 := h.2.1
    simp only [tt_pos h, if_true, w64 (n := (l.length : Int) - 1) (by omega), w64 (n := n - 1) (by omega), mx_eq, l01In_eq, Option.bind_some, decide_eq_true_eq]
    by_cases c1 : 0 ≤ m ∧ m ≤ (l.length : Int) - 1
    · by_cases c2 : 0 ≤ c ∧ c ≤ max 0 (n - 1)
      · simp only [if_pos c1, if_pos c2, if_pos (show (0 ≤ m ∧ m ≤ (l.length : Int) - 1) ∧ 0 ≤ c ∧ c ≤ max 0 (n - 1) from ⟨c1, c2⟩)]
        exact Ev.now _
      · simp only [if_pos c1, if_neg c2, if_neg (show ¬ ((0 ≤ m ∧ m ≤ (l.length : Int) - 1) ∧ 0 ≤ c ∧ c ≤ max 0 (n - 1)) from fun g => c2 g.2)]
        exact Ev.now _
    · simp only [if_neg c1, if_neg (show ¬ ((0 ≤ m ∧ m ≤ (l.length : Int) - 1) ∧ 0 ≤ c ∧ c ≤ max 0 (n - 1)) from fun g => c1 g.1)]
      exact Ev.now _
  · simp only [tt_neg h, Bool.false_eq_true, if_false]
    exact Ev.now _
/-- The cues whose modules are told true. -/
def cbF (p : Int → Bool) : List S141 → List Int
  | [] => []
  | a :: s => if p a.f1 = true then a.f0 :: cbF p s else cbF p s
theorem cbF_congr {p q : Int → Bool} : ∀ s : List S141, (∀ a ∈ s, p a.f1 = q a.f1) → cbF p s = cbF q s
  | [], _ => rfl
  | a :: s, h => by
    unfold cbF
    rw [h a (by simp), cbF_congr s (fun b hb => h b (by simp [hb]))]
theorem cbF_length (p : Int → Bool) : ∀ s : List S141, (cbF p s).length ≤ s.length
  | [] => Nat.le_refl _
  | a :: s => by
    unfold cbF
    have := cbF_length p s
    split
    · simp only [List.length_cons]
      omega
    · simp only [List.length_cons]
      omega
theorem spec_cb_l0 (w : List S141) (hw : w.length ≤ 1000000) (b : List Int) (hb : b.length ≤ 1000) : ∀ (s : List S141) (i : Int) (out : List Int), 0 ≤ i → w.drop i.toNat = s → (out.length : Int) ≤ i → Ev (fun k => spec_CuesBelow.l0 k w b out i) (out ++ cbF (fun m => decide (m ∈ b)) s, 0)
  | [], i, out, h0, h, ho => by
    refine Ev_shift ?_
    simp only [spec_CuesBelow.l0, if_neg (drop_nil h0 h), cbF, List.append_nil]
    exact Ev.now _
  | a :: s, i, out, h0, h, ho => by
    refine Ev_shift ?_
    obtain ⟨h1, h2, h3⟩ := drop_cons z141 h0 h
    have h2' : rd_T141 w i = a := h2
    simp only [spec_CuesBelow.l0, if_pos h1, if_pos h0, h2']
    refine Ev.bind (has_ev b (by omega) a.f1) ?_
    unfold cbF
    by_cases g : decide (a.f1 ∈ b) = true
    · simp only [if_pos g, if_pos (show out.length < 17592186044416 by omega), w64 (n := i + 1) (by omega)]
      refine Ev_eq (spec_cb_l0 w hw b hb s (i + 1) (out ++ [a.f0]) (by omega) h3 (by simp; omega)) ?_
      simp
    · simp only [if_neg g, w64 (n := i + 1) (by omega)]
      exact spec_cb_l0 w hw b hb s (i + 1) out (by omega) h3 (by omega)
theorem impl_cb_l0 (w : List S141) (hw : w.length ≤ 1000000) (y : List Bool) (p : Int → Bool) (hy : ∀ a ∈ w, (0 ≤ a.f1 ∧ a.f1 < y.length) ∧ rdOf false y a.f1 = p a.f1) : ∀ (s : List S141) (i : Int) (out : List Int), 0 ≤ i → w.drop i.toNat = s → (out.length : Int) ≤ i → Ev (fun k => impl_CuesBelow.l0 k y out w w.length i) (out ++ cbF p s, 0)
  | [], i, out, h0, h, ho => by
    refine Ev_shift ?_
    simp only [impl_CuesBelow.l0, if_neg (drop_nil h0 h), cbF, List.append_nil]
    exact Ev.now _
  | a :: s, i, out, h0, h, ho => by
    refine Ev_shift ?_
    obtain ⟨h1, h2, h3⟩ := drop_cons z141 h0 h
    have h2' : rd_T141 w i = a := h2
    have ha := hy a (List.mem_of_mem_drop (i := i.toNat) (by rw [h]; simp))
    simp only [impl_CuesBelow.l0, if_pos h1, if_pos h0, h2', if_pos ha.1.1, if_pos ha.1.2, ha.2]
    unfold cbF
    by_cases g : p a.f1 = true
    · simp only [if_pos g, if_pos (show out.length < 17592186044416 by omega), w64 (n := i + 1) (by omega)]
      refine Ev_eq (impl_cb_l0 w hw y p hy s (i + 1) (out ++ [a.f0]) (by omega) h3 (by simp; omega)) ?_
      simp
    · simp only [if_neg g, w64 (n := i + 1) (by omega)]
      exact impl_cb_l0 w hw y p hy s (i + 1) out (by omega) h3 (by omega)
theorem wpins {l : List S47} {n : Int} {w : List S141} (h : PWires l n w) : ∀ x ∈ w, PPin l x.f1 x.f2 := by
  intro x hx
  obtain ⟨i, hi, rfl⟩ := List.mem_iff_getElem.1 hx
  have := (h.2.2 (i : Int) (by omega) (by omega)).2.1
  have e : rd_T141 w (i : Int) = w[i] := by
    show w.getD _ _ = _
    rw [Int.toNat_natCast, List.getD_eq_getElem?_getD, List.getElem?_eq_getElem hi]
    rfl
  rw [e] at this
  exact this
theorem cues_ev (l : List S47) (hl : l.length ≤ 1000000) (n : Int) (w : List S141) (hn : w.length ≤ 1000000) (m : Int) : ∃ q : List Int × Int, Ev (fun k => spec_CuesBelow.f k l n w m) q ∧ Ev (fun k => impl_CuesBelow.f k l n w m) q ∧ q.1.length ≤ 2000000 ∧ (q.2 = 0 → PWires l n w ∧ q.1 = cbF (belowP l m) w) := by
  have hs := wcode_ev l hl n w hn m 0
  have hi := impl_AreWires_ev l hl n w hn
  by_cases h : PWires l n w
  · have hm := h.1
    have hl1 := hm.1
    have hl2 := hm.2.1
    rw [tt_pos h] at hi
    rw [tt_pos h, if_pos rfl] at hs
    by_cases c : 0 ≤ m ∧ m ≤ (l.length : Int) - 1
    · rw [if_pos ⟨c, Int.le_refl _, by omega⟩] at hs
      obtain ⟨y, ya, yb, yc⟩ := impl_below hm c.1 (show m < l.length by omega)
      have hlen := idxF_length (belowP l m) l.length 0
      have hcl := cbF_length (belowP l m) w
      refine ⟨(cbF (belowP l m) w, 0), ?_, ?_, by show List.length (cbF _ _) ≤ _; omega, fun _ => ⟨h, rfl⟩⟩
      · unfold spec_CuesBelow.f
        refine Ev.bind hs ?_
        simp only [if_true]
        refine Ev.bind (spec_below hm m) ?_
        refine Ev_eq (spec_cb_l0 w hn _ (by omega) w 0 [] (by omega) rfl (by simp)) ?_
        rw [List.nil_append, cbF_congr w (fun a ha => ?_)]
        have hp := (wpins h a ha).1
        show decide (a.f1 ∈ idxF (belowP l m) l.length 0) = belowP l m a.f1
        by_cases g : belowP l m a.f1 = true
        · rw [g]
          exact decide_eq_true ((idxF_mem _ _ _ _).2 ⟨hp.1, by omega, g⟩)
        · have g' : belowP l m a.f1 = false := by simpa using g
          rw [g']
          exact decide_eq_false (fun x => g ((idxF_mem _ _ _ _).1 x).2.2)
      · unfold impl_CuesBelow.f
        refine Ev.bind hi ?_
        simp only [if_true, isIndex_eq (show 0 ≤ (l.length : Int) ∧ (l.length : Int) ≤ 140737488351232 by omega), Option.bind_some, decide_eq_true (show 0 ≤ m ∧ m < (l.length : Int) by omega)]
        refine Ev.bind yc ?_
        exact impl_cb_l0 w hn y (belowP l m) (fun a ha => by
          have hp := (wpins h a ha).1
          exact ⟨⟨hp.1, by omega⟩, yb a.f1 hp.1 (by omega)⟩) w 0 [] (by omega) rfl (by simp)
    · rw [if_neg (fun g => c g.1)] at hs
      refine ⟨([], 2), ?_, ?_, by simp, fun x => absurd x (by decide)⟩
      · unfold spec_CuesBelow.f
        refine Ev.bind hs ?_
        simp only [if_neg (show ¬ (2 : Int) = 0 by decide)]
        exact Ev.now _
      · unfold impl_CuesBelow.f
        refine Ev.bind hi ?_
        simp only [if_true, isIndex_eq (show 0 ≤ (l.length : Int) ∧ (l.length : Int) ≤ 140737488351232 by omega), Option.bind_some, decide_eq_false (show ¬ (0 ≤ m ∧ m < (l.length : Int)) by omega), Bool.false_eq_true, if_false]
        exact Ev.now _
  · rw [tt_neg h] at hi
    rw [tt_neg h, if_neg (by decide)] at hs
    refine ⟨([], 1), ?_, ?_, by simp, fun x => absurd x (by decide)⟩
    · unfold spec_CuesBelow.f
      refine Ev.bind hs ?_
      simp only [if_neg (show ¬ (1 : Int) = 0 by decide)]
      exact Ev.now _
    · unfold impl_CuesBelow.f
      refine Ev.bind hi ?_
      simp only [Bool.false_eq_true, if_false]
      exact Ev.now _
theorem agree_CuesBelow (m0 : List S47) (a1 : Int) (m2 : List S141) (a3 : Int) (hn0 : m0.length ≤ 1000000) (hq0 : ∀ x ∈ m0, (I64 x.f0 ∧ I64 x.f1)) (q1 : I64 a1) (hn2 : m2.length ≤ 1000000) (hq2 : ∀ x ∈ m2, (I64 x.f0 ∧ I64 x.f1 ∧ I64 x.f2)) (q3 : I64 a3) : ∃ (K : Nat) (r1 : List Int) (r2 : Int), r1.length ≤ 10000000 ∧ ∀ k, K ≤ k → spec_CuesBelow.f k m0 a1 m2 a3 = some (r1, r2) ∧ impl_CuesBelow.f k m0 a1 m2 a3 = some (r1, r2) := by
  obtain ⟨⟨x, y⟩, e1, e2, hl, _⟩ := cues_ev m0 hn0 a1 m2 hn2 a3
  obtain ⟨K, hk⟩ := Ev_both e1 e2
  exact ⟨K, x, y, by simp at hl; omega, hk⟩
end Go.Proofs.Ytmahecjbejffoaa.Pure
