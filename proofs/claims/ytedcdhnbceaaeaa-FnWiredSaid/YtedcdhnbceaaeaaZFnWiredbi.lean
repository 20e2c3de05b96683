/- PureFnWired of the law FnWired: taken over, declaration by declaration, as far as the law leans on it (the words and the printed functions are the kit's own print). No condition but what each says. -/
import Derived.Test.YtedcdhnbceaaeaaZFnWiredav
import Derived.Test.YtedcdhnbceaaeaaZFnWiredax
import Derived.Test.YtedcdhnbceaaeaaZFnWireday
import Derived.Test.YtedcdhnbceaaeaaZFnWiredaz
import Derived.Test.YtedcdhnbceaaeaaZFnWiredba
import Derived.Test.YtedcdhnbceaaeaaZFnWiredbb
import Derived.Test.YtedcdhnbceaaeaaZFnWiredbc
import Derived.Test.YtedcdhnbceaaeaaZFnWiredbd
import Derived.Test.YtedcdhnbceaaeaaZFnWiredbe
import Derived.Test.YtedcdhnbceaaeaaZFnWiredbf
import Derived.Test.YtedcdhnbceaaeaaZFnWiredbg
import Derived.Test.YtedcdhnbceaaeaaZFnWiredbh
namespace Go.Proofs.Ytedcdhnbceaaeaa.Pure
open Go.RowKit Go.Proofs.Ytedcdhnbceaaeaa.PFnWired Go.Proofs.YtedcdhnbceaaeaaW.PrintWords Go.Proofs.YtedcdhnbceaaeaaW.PrintLast Go.Proofs.Ytedcdhnbceaaeaa.Opening
set_option linter.unusedVariables false
set_option linter.unusedSimpArgs false
theorem w64 {n : Int} (h : -9223372036854775808 ≤ n ∧ n ≤ 9223372036854775807) : wrap64 n = n := by
  unfold wrap64
  omega
theorem l01In_eq (a b c : Int) : spec_l01In.f a b c = some (decide (b ≤ a ∧ a ≤ c)) := by
  unfold spec_l01In.f
  by_cases h : b ≤ a <;> simp [h]
theorem within_eq (a b c : Int) : impl_within.f a b c = some (decide (b ≤ a ∧ a ≤ c)) := by
  unfold impl_within.f
  by_cases h : b ≤ a <;> simp [h]
theorem drop_cons {α : Type} {l : List α} {i : Int} {a : α} {s : List α} (z : α) (h0 : 0 ≤ i) (h : l.drop i.toNat = a :: s) : i < l.length ∧ l.getD i.toNat z = a ∧ l.drop (i + 1).toNat = s := by
  have hlt : i.toNat < l.length := by
    rcases Nat.lt_or_ge i.toNat l.length with h1 | h1
    · exact h1
    · rw [List.drop_eq_nil_of_le h1] at h; cases h
  rw [List.drop_eq_getElem_cons hlt] at h
  injection h with h1 h2
  refine ⟨by omega, ?_, ?_⟩
  · rw [List.getD_eq_getElem?_getD, List.getElem?_eq_getElem hlt]; exact h1
  · rw [show (i + 1).toNat = i.toNat + 1 by omega]; exact h2
theorem drop_nil {α : Type} {l : List α} {i : Int} (h0 : 0 ≤ i) (h : l.drop i.toNat = []) : ¬ i < (l.length : Int) := by
  have := List.drop_eq_nil_iff.1 h
  omega
theorem Ev_shift {α : Type} {g : Nat → Option α} {r : α} (h : Ev (fun k => g (k + 1)) r) : Ev g r := Ev.step (fun _ => rfl) h
theorem Ev_eq {α : Type} {g : Nat → Option α} {r q : α} (h : Ev g r) (e : r = q) : Ev g q := e ▸ h
theorem Ev_some {α : Type} {r q : α} (e : r = q) : Ev (fun _ => some r) q := e ▸ Ev.now r
noncomputable def tt (p : Prop) : Bool := @decide p (Classical.propDecidable p)
theorem tt_pos {p : Prop} (h : p) : tt p = true := by unfold tt; exact @decide_eq_true p (Classical.propDecidable p) h
theorem tt_neg {p : Prop} (h : ¬ p) : tt p = false := by unfold tt; exact @decide_eq_false p (Classical.propDecidable p) h
theorem tt_dec (p : Prop) [i : Decidable p] : tt p = decide p := by
  by_cases h : p
  · rw [tt_pos h, decide_eq_true h]
  · rw [tt_neg h, decide_eq_false h]
theorem tt_iff {p q : Prop} (h : p ↔ q) : tt p = tt q := by rw [propext h]
theorem tt_and (p q : Prop) : (tt p && tt q) = tt (p ∧ q) := by
  by_cases h : p
  · rw [tt_pos h, Bool.true_and]; exact tt_iff ⟨fun x => ⟨h, x⟩, fun x => x.2⟩
  · rw [tt_neg h, Bool.false_and, tt_neg (fun x => h x.1)]
theorem tt_eq_true {p : Prop} : tt p = true ↔ p := by
  by_cases h : p
  · exact ⟨fun _ => h, fun _ => tt_pos h⟩
  · refine ⟨fun e => ?_, fun h' => absurd h' h⟩
    rw [tt_neg h] at e
    cases e
theorem ev_all {L : Int → Nat → Option Bool} {P : Int → Prop} {n : Int} {fin : Bool} (h1 : ∀ i, 0 ≤ i → i < n → P i → ∀ r, Ev (L (i + 1)) r → Ev (L i) r) (h2 : ∀ i, 0 ≤ i → i < n → ¬ P i → Ev (L i) false) (h3 : Ev (L n) fin) :
    ∀ (d : Nat) (i : Int), 0 ≤ i → i + d = n → Ev (L i) (fin && tt (∀ j, i ≤ j → j < n → P j))
  | 0, i, h0, hd => by
    have e : i = n := by omega
    rw [e, tt_pos (fun j h1 h2 => by omega), Bool.and_true]
    exact h3
  | d + 1, i, h0, hd => by
    by_cases hp : P i
    · have := h1 i h0 (by omega) hp _ (ev_all h1 h2 h3 d (i + 1) (by omega) (by omega))
      refine Ev_eq this ?_
      congr 1
      exact tt_iff ⟨fun h j h1 h2 => by
        by_cases e : j = i
        · rw [e]; exact hp
        · exact h j (by omega) h2, fun h j h1 h2 => h j (by omega) h2⟩
    · rw [tt_neg (fun h => hp (h i (Int.le_refl _) (by omega))), Bool.and_false]
      exact h2 i h0 (by omega) hp
/-- The numbers from i on, d of them looked at, that are told true. -/
def idxF (p : Int → Bool) : Nat → Int → List Int
  | 0, _ => []
  | d + 1, i => if p i = true then i :: idxF p d (i + 1) else idxF p d (i + 1)
theorem idxF_length (p : Int → Bool) : ∀ (d : Nat) (i : Int), (idxF p d i).length ≤ d
  | 0, _ => Nat.le_refl _
  | d + 1, i => by
    unfold idxF
    have := idxF_length p d (i + 1)
    split
    · simp only [List.length_cons]
      omega
    · omega
theorem ev_filter {ρ : Type} {L : Int → List Int → Nat → Option ρ} {p : Int → Bool} {n : Int} {fin : List Int → ρ}
    (h1 : ∀ (i : Int) (out : List Int), 0 ≤ i → i < n → (out.length : Int) ≤ i → p i = true → ∀ r, Ev (L (i + 1) (out ++ [i])) r → Ev (L i out) r)
    (h2 : ∀ (i : Int) (out : List Int), 0 ≤ i → i < n → (out.length : Int) ≤ i → p i = false → ∀ r, Ev (L (i + 1) out) r → Ev (L i out) r)
    (h3 : ∀ out : List Int, (out.length : Int) ≤ n → Ev (L n out) (fin out)) :
    ∀ (d : Nat) (i : Int) (out : List Int), 0 ≤ i → i + d = n → (out.length : Int) ≤ i → Ev (L i out) (fin (out ++ idxF p d i))
  | 0, i, out, h0, hd, hl => by
    have e : i = n := by omega
    subst e
    simp only [idxF, List.append_nil]
    exact h3 out hl
  | d + 1, i, out, h0, hd, hl => by
    unfold idxF
    cases hp : p i with
    | true =>
      refine h1 i out h0 (by omega) hl hp _ ?_
      have := ev_filter h1 h2 h3 d (i + 1) (out ++ [i]) (by omega) (by omega) (by simp; omega)
      simpa using this
    | false =>
      refine h2 i out h0 (by omega) hl hp _ ?_
      have := ev_filter h1 h2 h3 d (i + 1) out (by omega) (by omega) (by omega)
      simpa using this
theorem set_at_mid {α : Type} (p : List α) (b v : α) (s : List α) : (p ++ b :: s).set ((p.length : Int)).toNat v = p ++ v :: s := by
  rw [Int.toNat_natCast, List.set_append_right _ _ (Nat.le_refl _)]
  simp
theorem getD_at_mid {α : Type} (z : α) (p : List α) (b : α) (s : List α) : (p ++ b :: s).getD ((p.length : Int)).toNat z = b := by
  rw [Int.toNat_natCast, List.getD_eq_getElem?_getD, List.getElem?_append_right (Nat.le_refl _)]
  simp
theorem rd_mem {l : List Int} {i : Int} (h0 : 0 ≤ i) (h1 : i < l.length) : rd l i ∈ l := by
  have hlt : i.toNat < l.length := by omega
  have e : rd l i = l[i.toNat] := by
    show l.getD i.toNat _ = _
    rw [List.getD_eq_getElem?_getD, List.getElem?_eq_getElem hlt]
    rfl
  rw [e]
  exact List.getElem_mem hlt
theorem mx_eq (a b : Int) : mx a b = max a b := by
  unfold mx
  omega
/-- A source of drawn numbers. -/
def Src (c : List Int) (a s : Int) : Prop := (0 ≤ a ∧ a ≤ c.length ∧ c.length ≤ 4096) ∧ (0 ≤ s ∧ s < 2147483647) ∧ ∀ x ∈ c, 0 ≤ x ∧ x ≤ 255
theorem next_some {c : List Int} {a s : Int} (h : Src c a s) (n : Int) (hn : n ≤ 1000000000000) : ∃ v a' s', spec_l01Next.f c a s n = some (v, a', s') ∧ Src c a' s' ∧ 0 ≤ v ∧ (v < n ∨ v = 0) := by
  have ha := h.1
  have hs := h.2.1
  unfold spec_l01Next.f
  by_cases c1 : n ≤ 1
  · rw [if_pos c1]
    exact ⟨0, a, s, rfl, h, by omega, .inr rfl⟩
  · rw [if_neg c1]
    have w1 : wrap64 (wrap64 (s * 48271) + 29) = s * 48271 + 29 := by rw [w64 (n := s * 48271) (by omega), w64 (by omega)]
    obtain ⟨e, he⟩ : ∃ e, Int.tmod (s * 48271 + 29) 2147483647 = e := ⟨_, rfl⟩
    have e0 : 0 ≤ e := he ▸ Int.tmod_nonneg _ (by omega)
    have e1 : e < 2147483647 := he ▸ Int.tmod_lt_of_pos _ (by omega)
    obtain ⟨q, hq⟩ : ∃ q, Int.tdiv e 31 = q := ⟨_, rfl⟩
    have q0 : 0 ≤ q ∧ q ≤ e := by
      rw [← hq, Int.tdiv_eq_ediv_of_nonneg e0]
      omega
    have src : ∀ a' : Int, 0 ≤ a' → a' ≤ (c.length : Int) → Src c a' e := fun a' h0 h1 => ⟨⟨h0, h1, ha.2.2⟩, ⟨e0, e1⟩, h.2.2⟩
    have md : ∀ x, 0 ≤ x → 0 ≤ Int.tmod x n ∧ Int.tmod x n < n := fun x hx => ⟨Int.tmod_nonneg _ hx, Int.tmod_lt_of_pos _ (by omega)⟩
    by_cases c2 : a < c.length
    · have hr := h.2.2 (rd c a) (rd_mem ha.1 c2)
      simp only [w1, he, hq, w64 (n := q) (by omega), if_pos c2, if_pos ha.1, w64 (n := a + 1) (by omega), w64 (n := a + 1 - 1) (by omega), show a + 1 - 1 = a by omega, w64 (n := a) (by omega), w64 (n := rd c a) (by omega), w64 (n := q + rd c a) (by omega), if_neg (show ¬ n = 0 by omega)]
      have m1 := md (rd c a) hr.1
      have m2 := md (q + rd c a) (by omega)
      by_cases c3 : n ≤ 256
      · by_cases c4 : Int.tmod (a + 1) 2 = 0
        · simp only [if_pos c3, if_pos c4]
          exact ⟨_, a + 1, e, rfl, src (a + 1) (by omega) (by omega), m1.1, .inl m1.2⟩
        · simp only [if_pos c3, if_neg c4]
          exact ⟨_, a + 1, e, rfl, src (a + 1) (by omega) (by omega), m2.1, .inl m2.2⟩
      · simp only [if_neg c3]
        exact ⟨_, a + 1, e, rfl, src (a + 1) (by omega) (by omega), m2.1, .inl m2.2⟩
    · have m3 := md q q0.1
      simp only [w1, he, hq, w64 (n := q) (by omega), if_neg c2, if_neg (show ¬ n = 0 by omega)]
      exact ⟨_, a, e, rfl, src a ha.1 ha.2.1, m3.1, .inl m3.2⟩
theorem pick_some {c : List Int} {a s : Int} (h : Src c a s) (l : List Int) (h1 : 1 ≤ l.length) (h2 : l.length ≤ 1000) : ∃ v a' s', spec_l01Pick.f c a s l = some (v, a', s') ∧ Src c a' s' ∧ v ∈ l := by
  obtain ⟨v, a', s', e, hs, h0, hv⟩ := next_some h l.length (by omega)
  refine ⟨rd l v, a', s', ?_, hs, rd_mem h0 (by omega)⟩
  unfold spec_l01Pick.f
  rw [e]
  simp only [Option.bind_some]
  rw [if_pos h0, if_pos (by omega)]
theorem from_l0 (c : List Int) (hc : c.length ≤ 4096) (hb : ∀ x ∈ c, 0 ≤ x ∧ x ≤ 255) : ∀ (d : Nat) (i s : Int), 0 ≤ i → i + d = c.length → 0 ≤ s → s < 2147483647 → ∃ s', Ev (fun k => spec_l01From.l0 k c i c 0 s) (c, 0, s') ∧ Src c 0 s'
  | 0, i, s, h0, hd, s0, s1 => by
    refine ⟨s, Ev_shift ?_, ⟨by omega, by omega, hc⟩, ⟨s0, s1⟩, hb⟩
    simp only [spec_l01From.l0, if_neg (show ¬ i < (c.length : Int) by omega)]
    exact Ev.now _
  | d + 1, i, s, h0, hd, s0, s1 => by
    have hi : i < (c.length : Int) := by omega
    have hr := hb (rd c i) (rd_mem h0 hi)
    by_cases c2 : i < 64
    · obtain ⟨s', e, hs⟩ := from_l0 c hc hb d (i + 1) (Int.tmod (s * 83 + rd c i) 2147483647) (by omega) (by omega) (Int.tmod_nonneg _ (by omega)) (Int.tmod_lt_of_pos _ (by omega))
      refine ⟨s', Ev_shift ?_, hs⟩
      simp only [spec_l01From.l0, if_pos hi, if_pos c2, if_pos h0, w64 (n := i + 1) (by omega), w64 (n := s * 83) (by omega), w64 (n := rd c i) (by omega), w64 (n := s * 83 + rd c i) (by omega)]
      exact e
    · refine ⟨s, Ev_shift ?_, ⟨by omega, by omega, hc⟩, ⟨s0, s1⟩, hb⟩
      simp only [spec_l01From.l0, if_pos hi, if_neg c2]
      exact Ev.now _
theorem from_ev (c : List Int) (hc : c.length ≤ 4096) (hb : ∀ x ∈ c, 0 ≤ x ∧ x ≤ 255) : ∃ s, Ev (fun k => spec_l01From.f k c) (c, 0, s) ∧ Src c 0 s := by
  unfold spec_l01From.f
  exact from_l0 c hc hb c.length 0 61043 (by omega) (by omega) (by omega) (by omega)
theorem u8_rng {l : List Int} (h : ∀ x ∈ l, (Lit.int .u8 x).wf = true) : ∀ x ∈ l, 0 ≤ x ∧ x ≤ 255 := by
  intro x hx
  have := h x hx
  simp only [Lit.wf, Bool.and_eq_true, decide_eq_true_eq] at this
  have h1 : IntKind.min .u8 = 0 := by decide
  have h2 : IntKind.max .u8 = 255 := by decide
  rw [h1, h2] at this
  exact this
theorem likeInts_l0 (l : List Int) (hl : l.length ≤ 10000000) : ∀ (d : Nat) (i : Int), 0 ≤ i → i + d = l.length → Ev (fun k => laws_likeInts.l0 k l l i) true
  | 0, i, h0, hd => by
    refine Ev_shift ?_
    simp only [laws_likeInts.l0, if_neg (show ¬ i < (l.length : Int) by omega)]
    exact Ev.now _
  | d + 1, i, h0, hd => by
    refine Ev_shift ?_
    simp only [laws_likeInts.l0, if_pos (show i < (l.length : Int) by omega), if_pos h0, if_true, w64 (n := i + 1) (by omega)]
    exact likeInts_l0 l hl d (i + 1) (by omega) (by omega)
theorem likeInts_self (l : List Int) (hl : l.length ≤ 10000000) : Ev (fun k => laws_likeInts.f k l l) true := by
  unfold laws_likeInts.f
  simp only [if_true]
  exact likeInts_l0 l hl l.length 0 (by omega) (by omega)
/-- A module's own numbers are right at its place. -/
def PM (l : List S200) (i : Int) : Prop := 0 ≤ (rd_T200 l i).f1 ∧ (rd_T200 l i).f1 ≤ 32 ∧ (i = 0 → (rd_T200 l i).f0 = -1) ∧ (0 < i → 0 ≤ (rd_T200 l i).f0 ∧ (rd_T200 l i).f0 ≤ i - 1)
def PMods (l : List S200) : Prop := 1 ≤ l.length ∧ l.length ≤ 12 ∧ ∀ j : Int, 0 ≤ j → j < l.length → PM l j
theorem spec_AreModules_ev (l : List S200) (hn : l.length ≤ 140737488351232) : Ev (fun k => spec_AreModules.f k l) (tt (PMods l)) := by
  unfold spec_AreModules.f
  have := ev_all (L := fun i k => spec_AreModules.l0 k l i) (P := PM l) (n := l.length) (fin := decide (1 ≤ l.length ∧ l.length ≤ 12)) (fun i h0 h1 hp r hr => ?_) (fun i h0 h1 hp => ?_) ?_ l.length 0 (by omega) (by omega)
  · refine Ev_eq this ?_
    rw [← tt_dec, tt_and]
    exact tt_iff ⟨fun h => ⟨h.1.1, h.1.2, fun j h0 h1 => h.2 j h0 h1⟩, fun h => ⟨⟨h.1, h.2.1⟩, fun j h0 h1 => h.2.2 j h0 h1⟩⟩
  · refine Ev_shift ?_
    unfold PM at hp
    simp only [spec_AreModules.l0, if_pos h1, if_pos h0, l01In_eq, Option.bind_some]
    simp only [decide_eq_true_eq]
    simp only [if_pos (And.intro hp.1 hp.2.1)]
    rw [w64 (n := i + 1) (by omega)]
    by_cases h : i = 0
    · simp only [if_pos h, if_pos (hp.2.2.1 h), if_neg (show ¬ i > 0 by omega)]
      exact hr
    · simp only [if_neg h, if_pos (show i > 0 by omega), w64 (n := i - 1) (by omega)]
      have := hp.2.2.2 (by omega)
      simp only [if_pos this]
      exact hr
  · refine Ev_shift ?_
    unfold PM at hp
    simp only [spec_AreModules.l0, if_pos h1, if_pos h0, l01In_eq, Option.bind_some]
    simp only [decide_eq_true_eq]
    by_cases hq : 0 ≤ (rd_T200 l i).f1 ∧ (rd_T200 l i).f1 ≤ 32
    · simp only [if_pos hq]
      by_cases h : i = 0
      · by_cases h2 : (rd_T200 l i).f0 = -1
        · exact absurd ⟨hq.1, hq.2, fun _ => h2, fun h => by omega⟩ hp
        · simp only [if_pos h, if_neg h2]
          exact Ev.now _
      · simp only [if_neg h, if_pos (show i > 0 by omega), w64 (n := i - 1) (by omega)]
        by_cases h2 : 0 ≤ (rd_T200 l i).f0 ∧ (rd_T200 l i).f0 ≤ i - 1
        · exact absurd ⟨hq.1, hq.2, fun h => by omega, fun _ => h2⟩ hp
        · simp only [if_neg h2]
          exact Ev.now _
    · simp only [if_neg hq]
      exact Ev.now _
  · refine Ev_shift ?_
    simp only [spec_AreModules.l0, if_neg (show ¬ (l.length : Int) < l.length by omega), l01In_eq, Option.bind_some]
    exact Ev_some (by congr 1; exact propext ⟨fun h => by omega, fun h => by omega⟩)
theorem impl_AreModules_l0 (l : List S200) (hn : l.length ≤ 140737488351232) (hz : (rd_T200 l 0).f0 = -1) : Ev (fun k => impl_AreModules.l0 k l l.length 0) (tt (∀ j : Int, 0 ≤ j → j < l.length → PM l j)) := by
  have := ev_all (L := fun i k => impl_AreModules.l0 k l l.length i) (P := PM l) (n := l.length) (fin := true) (fun i h0 h1 hp r hr => ?_) (fun i h0 h1 hp => ?_) ?_ l.length 0 (by omega) (by omega)
  · refine Ev_eq this ?_
    rw [Bool.true_and]
  · refine Ev_shift ?_
    unfold PM at hp
    simp only [impl_AreModules.l0, if_pos h1, if_pos h0, within_eq, Option.bind_some]
    simp only [decide_eq_true_eq]
    simp only [if_pos (And.intro hp.1 hp.2.1)]
    rw [w64 (n := i + 1) (by omega)]
    by_cases h : i = 0
    · simp only [if_neg (show ¬ i > 0 by omega)]
      exact hr
    · simp only [if_pos (show i > 0 by omega), w64 (n := i - 1) (by omega)]
      have := hp.2.2.2 (by omega)
      simp only [if_pos this]
      exact hr
  · refine Ev_shift ?_
    unfold PM at hp
    simp only [impl_AreModules.l0, if_pos h1, if_pos h0, within_eq, Option.bind_some]
    simp only [decide_eq_true_eq]
    by_cases hq : 0 ≤ (rd_T200 l i).f1 ∧ (rd_T200 l i).f1 ≤ 32
    · simp only [if_pos hq]
      by_cases h : i = 0
      · exact absurd ⟨hq.1, hq.2, fun h => by rw [h]; exact hz, fun h => by omega⟩ hp
      · simp only [if_pos (show i > 0 by omega), w64 (n := i - 1) (by omega)]
        by_cases h2 : 0 ≤ (rd_T200 l i).f0 ∧ (rd_T200 l i).f0 ≤ i - 1
        · exact absurd ⟨hq.1, hq.2, fun h => by omega, fun _ => h2⟩ hp
        · simp only [if_neg h2]
          exact Ev.now _
    · simp only [if_neg hq]
      exact Ev.now _
  · refine Ev_shift ?_
    simp only [impl_AreModules.l0, if_neg (show ¬ (l.length : Int) < l.length by omega)]
    exact Ev.now _
theorem impl_AreModules_ev (l : List S200) (hn : l.length ≤ 140737488351232) : Ev (fun k => impl_AreModules.f k l) (tt (PMods l)) := by
  unfold impl_AreModules.f
  have bad : ∀ {q : Prop}, ¬ q → (q ↔ PMods l) → Ev (fun k => impl_AreModules.j0 k l true) (tt (PMods l)) := by
    intro q hq e
    refine Ev_shift ?_
    simp only [impl_AreModules.j0, if_true]
    exact Ev_some (tt_neg (fun h => hq (e.2 h))).symm
  by_cases h1 : (l.length : Int) < 1
  · simp only [if_pos h1]
    exact bad (q := False) (fun h => h) ⟨fun h => h.elim, fun h => by have := h.1; omega⟩
  · simp only [if_neg h1]
    by_cases h2 : (l.length : Int) > 12
    · simp only [if_pos h2]
      exact bad (q := False) (fun h => h) ⟨fun h => h.elim, fun h => by have := h.2.1; omega⟩
    · simp only [if_neg h2, if_pos (show 0 < (l.length : Int) by omega)]
      by_cases hz : (rd_T200 l 0).f0 = -1
      · rw [hz]
        refine Ev_shift ?_
        simp only [impl_AreModules.j0, bne_self_eq_false, Bool.false_eq_true, if_false]
        refine Ev_eq (impl_AreModules_l0 l hn hz) (tt_iff ⟨fun h => ⟨by omega, by omega, h⟩, fun h => h.2.2⟩)
      · have e : ((rd_T200 l 0).f0 != -1) = true := by simpa using hz
        rw [e]
        exact bad (q := False) (fun h => h) ⟨fun h => h.elim, fun h => hz ((h.2.2 0 (by omega) (by omega)).2.2.1 rfl)⟩
theorem parent_lt {l : List S200} (h : PMods l) {m : Int} (h0 : 0 ≤ m) (h1 : m < l.length) : -1 ≤ (rd_T200 l m).f0 ∧ (rd_T200 l m).f0 < m := by
  have := h.2.2 m h0 h1
  unfold PM at this
  by_cases e : m = 0
  · have := this.2.2.1 e
    omega
  · have := this.2.2.2 (by omega)
    omega
/-- A module and all above it. -/
def wayF (l : List S200) : Nat → Int → List Int
  | 0, _ => []
  | n + 1, m => if 0 ≤ m then m :: wayF l n (rd_T200 l m).f0 else []
theorem wayF_length (l : List S200) : ∀ (n : Nat) (m : Int), (wayF l n m).length ≤ n
  | 0, _ => Nat.le_refl _
  | n + 1, m => by
    unfold wayF
    split
    · simp only [List.length_cons]
      have := wayF_length l n (rd_T200 l m).f0
      omega
    · simp
theorem spec_way_l0 {l : List S200} (h : PMods l) : ∀ (n : Nat) (m : Int) (out : List Int), -1 ≤ m → m < l.length → m + 1 ≤ n → out.length + n ≤ 1000 → Ev (fun k => spec_l12Way.l0 k l m out) (out ++ wayF l n m)
  | 0, m, out, h0, h1, h2, h3 => by
    refine Ev_shift ?_
    simp only [spec_l12Way.l0, if_neg (show ¬ m ≥ 0 by omega)]
    exact Ev_some (by simp [wayF])
  | n + 1, m, out, h0, h1, h2, h3 => by
    refine Ev_shift ?_
    by_cases hm : m ≥ 0
    · have hp := parent_lt h hm h1
      simp only [spec_l12Way.l0, if_pos hm, if_pos (show out.length < 17592186044416 by omega), if_pos (show 0 ≤ m from hm), if_pos h1]
      refine Ev_eq (spec_way_l0 h n _ (out ++ [m]) hp.1 (by omega) (by omega) (by simp; omega)) ?_
      simp [wayF, hm]
    · simp only [spec_l12Way.l0, if_neg hm]
      exact Ev_some (by simp [wayF, show ¬ 0 ≤ m from hm])
theorem spec_way {l : List S200} (h : PMods l) {m : Int} (h0 : 0 ≤ m) (h1 : m < l.length) : Ev (fun k => spec_l12Way.f k l m) (wayF l 12 m) := by
  unfold spec_l12Way.f
  have := h.2.1
  exact spec_way_l0 h 12 m [] (by omega) h1 (by omega) (by simp)
theorem isIndex_eq {a n : Int} (hn : 0 ≤ n ∧ n ≤ 140737488351232) : impl_isIndex.f a n = some (decide (0 ≤ a ∧ a < n)) := by
  unfold impl_isIndex.f
  rw [w64 (by omega), within_eq, Option.bind_some]
  congr 1
  exact decide_eq_decide.2 ⟨fun h => by omega, fun h => by omega⟩
theorem way_mem_step {l : List S200} (h : PMods l) {n : Nat} {m x : Int} (h0 : 0 ≤ m) (h1 : m < l.length) : x ∈ wayF l (n + 1) m ↔ x = m ∨ x ∈ wayF l n (rd_T200 l m).f0 := by
  show x ∈ (if 0 ≤ m then m :: wayF l n (rd_T200 l m).f0 else []) ↔ _
  rw [if_pos h0]
  simp
theorem way_more {l : List S200} (h : PMods l) : ∀ (n k : Nat) (m : Int), -1 ≤ m → m < l.length → m + 1 ≤ n → n ≤ k → wayF l k m = wayF l n m
  | 0, 0, m, _, _, _, _ => rfl
  | 0, k + 1, m, h0, h1, h2, h3 => by
    unfold wayF
    rw [if_neg (by omega)]
  | n + 1, 0, m, h0, h1, h2, h3 => by omega
  | n + 1, k + 1, m, h0, h1, h2, h3 => by
    unfold wayF
    split
    · rename_i hm
      have hp := parent_lt h hm h1
      rw [way_more h n k _ hp.1 (by omega) (by omega) (by omega)]
    · rfl
theorem zero_mem {l : List S200} (h : PMods l) : ∀ (n : Nat) (m : Int), 0 ≤ m → m < l.length → m + 1 ≤ n → 0 ∈ wayF l n m
  | 0, m, h0, h1, h2 => by omega
  | n + 1, m, h0, h1, h2 => by
    rw [way_mem_step h h0 h1]
    by_cases e : m = 0
    · exact .inl e.symm
    · have hp := h.2.2 m h0 h1
      unfold PM at hp
      have := hp.2.2.2 (by omega)
      exact .inr (zero_mem h n _ this.1 (by omega) (by omega))
theorem has_l0 (l : List Int) (hn : l.length ≤ 140737488351232) (x : Int) : ∀ (s : List Int) (i : Int), 0 ≤ i → l.drop i.toNat = s → Ev (fun k => spec_l01Has.l0 k l x i) (decide (x ∈ s))
  | [], i, h0, h => by
    refine Ev_shift ?_
    simp only [spec_l01Has.l0, if_neg (drop_nil h0 h)]
    exact Ev_some (by simp)
  | a :: s, i, h0, h => by
    refine Ev_shift ?_
    obtain ⟨h1, h2, h3⟩ := drop_cons 0 h0 h
    have h2' : rd l i = a := h2
    by_cases e : a = x
    · simp only [spec_l01Has.l0, if_pos h1, if_pos h0, h2', if_pos e]
      exact Ev_some (by simp [e])
    · simp only [spec_l01Has.l0, if_pos h1, if_pos h0, h2', if_neg e, w64 (n := i + 1) (by omega)]
      refine Ev_eq (has_l0 l hn x s (i + 1) (by omega) h3) ?_
      simp [Ne.symm e]
theorem has_ev (l : List Int) (hn : l.length ≤ 140737488351232) (x : Int) : Ev (fun k => spec_l01Has.f k l x) (decide (x ∈ l)) := by
  unfold spec_l01Has.f
  exact has_l0 l hn x l 0 (by omega) rfl
/-- Is i the module or below it? -/
def belowP (l : List S200) (m : Int) (i : Int) : Bool := decide (m ∈ wayF l 12 i)
theorem spec_below {l : List S200} (h : PMods l) (m : Int) : Ev (fun k => spec_l12Below.f k l m) (idxF (belowP l m) l.length 0) := by
  unfold spec_l12Below.f
  have hl := h.2.1
  have := ev_filter (L := fun i out k => spec_l12Below.l0 k l m out i) (p := belowP l m) (n := l.length) (fin := fun out => out)
    (fun i out h0 h1 h2 hp r hr => by
      refine Ev_shift ?_
      simp only [spec_l12Below.l0, if_pos h1]
      refine Ev.bind (spec_way h h0 h1) ?_
      refine Ev.bind (has_ev (wayF l 12 i) (by have := wayF_length l 12 i; omega) m) ?_
      have hp' : decide (m ∈ wayF l 12 i) = true := hp
      simp only [hp', if_true, if_pos (show out.length < 17592186044416 by omega), w64 (n := i + 1) (by omega)]
      exact hr)
    (fun i out h0 h1 h2 hp r hr => by
      refine Ev_shift ?_
      simp only [spec_l12Below.l0, if_pos h1]
      refine Ev.bind (spec_way h h0 h1) ?_
      refine Ev.bind (has_ev (wayF l 12 i) (by have := wayF_length l 12 i; omega) m) ?_
      have hp' : decide (m ∈ wayF l 12 i) = false := hp
      simp only [hp', Bool.false_eq_true, if_false, w64 (n := i + 1) (by omega)]
      exact hr)
    (fun out h2 => by
      refine Ev_shift ?_
      simp only [spec_l12Below.l0, if_neg (show ¬ (l.length : Int) < l.length by omega)]
      exact Ev.now _) l.length 0 [] (by omega) (by omega) (by simp)
  exact this
theorem below_step {l : List S200} (h : PMods l) {m i : Int} (h0 : 0 ≤ i) (h1 : i < l.length) : belowP l m i = (decide (m = i) || (decide (0 ≤ (rd_T200 l i).f0) && belowP l m (rd_T200 l i).f0)) := by
  have hl := h.2.1
  have hp := parent_lt h h0 h1
  unfold belowP
  rw [← way_more h 12 14 i (by omega) h1 (by omega) (by omega), ← way_more h 12 13 (rd_T200 l i).f0 hp.1 (by omega) (by omega) (by omega)]
  have := way_mem_step (n := 13) (x := m) h h0 h1
  by_cases hz : 0 ≤ (rd_T200 l i).f0
  · simp [this, hz]
  · have e : wayF l 13 (rd_T200 l i).f0 = [] := by
      show (if 0 ≤ (rd_T200 l i).f0 then _ else _) = _
      rw [if_neg hz]
    rw [e] at this ⊢
    simp only [this]
    simp [hz]
theorem rdb_set (y : List Bool) (i j : Int) (v : Bool) (h0 : 0 ≤ i) (h1 : i < y.length) (j0 : 0 ≤ j) (j1 : j < y.length) : rdOf false (y.set i.toNat v) j = if j = i then v else rdOf false y j := by
  unfold rdOf
  rw [List.getD_eq_getElem?_getD, List.getD_eq_getElem?_getD, List.getElem?_set]
  by_cases e : j = i
  · subst e
    rw [if_pos rfl, if_pos rfl, if_pos (by omega)]
    rfl
  · rw [if_neg (by omega), if_neg e]
theorem impl_below_l0 {l : List S200} (h : PMods l) (m : Int) : ∀ (d : Nat) (i : Int) (y : List Bool), 0 ≤ i → i + d = l.length → y.length = l.length → (∀ j : Int, 0 ≤ j → j < l.length → rdOf false y j = if j < i then belowP l m j else decide (m = j)) →
    ∃ y', y'.length = l.length ∧ (∀ j : Int, 0 ≤ j → j < l.length → rdOf false y' j = belowP l m j) ∧ Ev (fun k => impl_isBelow.l0 k y l l.length i) y'
  | 0, i, y, h0, hd, hy, hj => by
    refine ⟨y, hy, fun j j0 j1 => ?_, Ev_shift ?_⟩
    · rw [hj j j0 j1, if_pos (by omega)]
    · simp only [impl_isBelow.l0, if_neg (show ¬ i < (l.length : Int) by omega)]
      exact Ev.now _
  | d + 1, i, y, h0, hd, hy, hj => by
    have hl := h.2.1
    have h1 : i < (l.length : Int) := by omega
    have hp := parent_lt h h0 h1
    have hb := below_step (m := m) h h0 h1
    have w := w64 (n := i + 1) (by omega)
    by_cases hz : (rd_T200 l i).f0 ≥ 0
    · have hpy := hj (rd_T200 l i).f0 hz (by omega)
      rw [if_pos (by omega)] at hpy
      by_cases hbp : belowP l m (rd_T200 l i).f0 = true
      · obtain ⟨y', a, b, c⟩ := impl_below_l0 h m d (i + 1) (y.set i.toNat true) (by omega) (by omega) (by simpa using hy) (fun j j0 j1 => by
          rw [rdb_set y i j true h0 (by omega) j0 (by omega)]
          by_cases e : j = i
          · rw [if_pos e, if_pos (by omega), e, hb, hbp]
            simp [show 0 ≤ (rd_T200 l i).f0 from hz]
          · rw [if_neg e, hj j j0 j1]
            by_cases g : j < i
            · rw [if_pos g, if_pos (by omega)]
            · rw [if_neg g, if_neg (by omega)])
        refine ⟨y', a, b, Ev_shift ?_⟩
        simp only [impl_isBelow.l0, if_pos h1, if_pos h0, if_pos hz, if_pos (show 0 ≤ (rd_T200 l i).f0 from hz), if_pos (show (rd_T200 l i).f0 < (y.length : Int) by omega), hpy, hbp, if_true, if_pos (show i < (y.length : Int) by omega), w]
        exact c
      · have hbp' : belowP l m (rd_T200 l i).f0 = false := by simpa using hbp
        obtain ⟨y', a, b, c⟩ := impl_below_l0 h m d (i + 1) y (by omega) (by omega) hy (fun j j0 j1 => by
          rw [hj j j0 j1]
          by_cases e : j = i
          · rw [if_neg (by omega), if_pos (by omega), e, hb, hbp']
            simp
          · by_cases g : j < i
            · rw [if_pos g, if_pos (by omega)]
            · rw [if_neg g, if_neg (by omega)])
        refine ⟨y', a, b, Ev_shift ?_⟩
        simp only [impl_isBelow.l0, if_pos h1, if_pos h0, if_pos hz, if_pos (show 0 ≤ (rd_T200 l i).f0 from hz), if_pos (show (rd_T200 l i).f0 < (y.length : Int) by omega), hpy, hbp', Bool.false_eq_true, if_false, w]
        exact c
    · obtain ⟨y', a, b, c⟩ := impl_below_l0 h m d (i + 1) y (by omega) (by omega) hy (fun j j0 j1 => by
        rw [hj j j0 j1]
        by_cases e : j = i
        · rw [if_neg (by omega), if_pos (by omega), e, hb]
          simp [show ¬ 0 ≤ (rd_T200 l i).f0 from hz]
        · by_cases g : j < i
          · rw [if_pos g, if_pos (by omega)]
          · rw [if_neg g, if_neg (by omega)])
      refine ⟨y', a, b, Ev_shift ?_⟩
      simp only [impl_isBelow.l0, if_pos h1, if_pos h0, if_neg hz, w]
      exact c
theorem impl_below {l : List S200} (h : PMods l) {m : Int} (m0 : 0 ≤ m) (m1 : m < l.length) : ∃ y : List Bool, y.length = l.length ∧ (∀ j : Int, 0 ≤ j → j < l.length → rdOf false y j = belowP l m j) ∧ Ev (fun k => impl_isBelow.f k l m) y := by
  have hl := h.2.1
  obtain ⟨y, a, b, c⟩ := impl_below_l0 h m l.length 0 ((List.replicate l.length false).set m.toNat true) (by omega) (by omega) (by simp) (fun j j0 j1 => by
    rw [rdb_set _ m j true m0 (by simp; omega) j0 (by simp; omega), if_neg (show ¬ j < 0 by omega)]
    by_cases e : j = m
    · rw [if_pos e, e]
      simp
    · rw [if_neg e, decide_eq_false (fun hh => e hh.symm)]
      unfold rdOf
      rw [List.getD_eq_getElem?_getD, List.getElem?_replicate]
      split <;> rfl)
  refine ⟨y, a, b, ?_⟩
  unfold impl_isBelow.f
  simp only [if_pos (show 0 ≤ (l.length : Int) by omega), Int.toNat_natCast, if_pos (show l.length ≤ 281474976710656 by omega), Option.bind_some, if_pos m0, if_pos (show m < ((List.replicate l.length false).length : Int) by simp; omega)]
  exact c
theorem idxF_mem (p : Int → Bool) : ∀ (d : Nat) (i x : Int), x ∈ idxF p d i ↔ i ≤ x ∧ x < i + d ∧ p x = true
  | 0, i, x => by simp [idxF]; omega
  | d + 1, i, x => by
    unfold idxF
    have ih := idxF_mem p d (i + 1) x
    by_cases hp : p i = true
    · rw [if_pos hp, List.mem_cons, ih]
      constructor
      · rintro (rfl | h)
        · exact ⟨by omega, by omega, hp⟩
        · exact ⟨by omega, by omega, h.2.2⟩
      · rintro ⟨a, b, c⟩
        by_cases e : x = i
        · exact .inl e
        · exact .inr ⟨by omega, by omega, c⟩
    · rw [if_neg hp, ih]
      constructor
      · rintro ⟨a, b, c⟩
        exact ⟨by omega, by omega, c⟩
      · rintro ⟨a, b, c⟩
        by_cases e : x = i
        · rw [e] at c
          exact absurd c hp
        · exact ⟨by omega, by omega, c⟩
theorem good12_l0 (c : List Int) : ∀ (d : Nat) (out : List S200) (a s : Int), Src c a s → 1 ≤ out.length → out.length + d ≤ 12 → ∃ l a' s', Ev (fun k => spec_l12Good.l0 k out d c a s) (l, a', s') ∧ Src c a' s' ∧ 1 ≤ l.length ∧ l.length ≤ 12
  | 0, out, a, s, h, h1, hd => by
    refine ⟨out, a, s, Ev_shift ?_, h, h1, by omega⟩
    simp only [spec_l12Good.l0, if_neg (show ¬ ((0 : Nat) : Int) > 0 by decide)]
    exact Ev.now _
  | d + 1, out, a, s, h, h1, hd => by
    obtain ⟨v1, a1, s1, e1, g1, _, _⟩ := next_some h (out.length : Int) (by omega)
    obtain ⟨v2, a2, s2, e2, g2, _, _⟩ := next_some g1 6 (by omega)
    obtain ⟨l, a', s', e, hs, hl⟩ := good12_l0 c d (out ++ [(⟨v1, v2⟩ : S200)]) a2 s2 g2 (by simp) (by simp; omega)
    refine ⟨l, a', s', Ev_shift ?_, hs, hl⟩
    simp only [spec_l12Good.l0, if_pos (show ((d + 1 : Nat) : Int) > 0 by omega), e1, e2, Option.bind_some, if_pos (show out.length < 8796093022208 by omega), show ((d + 1 : Nat) : Int) - 1 = (d : Int) by omega, w64 (n := (d : Int)) (by omega)]
    exact e
theorem good12_ev {c : List Int} {a s : Int} (h : Src c a s) : ∃ l a' s', Ev (fun k => spec_l12Good.f k c a s) (l, a', s') ∧ Src c a' s' ∧ 1 ≤ l.length ∧ l.length ≤ 12 := by
  obtain ⟨v1, a1, s1, e1, h1, _, _⟩ := next_some h 5 (by omega)
  obtain ⟨v2, a2, s2, e2, h2, v0, v3⟩ := next_some h1 8 (by omega)
  obtain ⟨l, a', s', e, hs, hl⟩ := good12_l0 c v2.toNat [(⟨(-1), v1⟩ : S200)] a2 s2 h2 (by simp) (by simp; omega)
  rw [show ((v2.toNat : Nat) : Int) = v2 by omega] at e
  refine ⟨l, a', s', ?_, hs, hl⟩
  unfold spec_l12Good.f
  simp only [e1, e2, Option.bind_some]
  exact e
theorem fill12_l0 (c : List Int) : ∀ (d : Nat) (out : List S200) (a s : Int), Src c a s → 14 ≤ out.length + d → out.length ≤ 14 → ∃ l a' s', Ev (fun k => spec_l12Draw.l0 k out c a s) (l, a', s') ∧ Src c a' s' ∧ l.length ≤ 30
  | d, out, a, s, h, hd, ho => by
    obtain ⟨v, a1, s1, e1, h1, v0, v1⟩ := next_some h 2 (by omega)
    by_cases c1 : (out.length : Int) < 12 + v
    · cases d with
      | zero => omega
      | succ d =>
        obtain ⟨l, a', s', e, hs, hl⟩ := fill12_l0 c d (out ++ [(⟨0, 1⟩ : S200)]) a1 s1 h1 (by simp; omega) (by simp; omega)
        refine ⟨l, a', s', Ev_shift ?_, hs, hl⟩
        simp only [spec_l12Draw.l0, e1, Option.bind_some, w64 (n := 12 + v) (by omega), if_pos c1, if_pos (show out.length < 8796093022208 by omega)]
        exact e
    · refine ⟨out, a1, s1, Ev_shift ?_, h1, by omega⟩
      simp only [spec_l12Draw.l0, e1, Option.bind_some, w64 (n := 12 + v) (by omega), if_neg c1]
      exact Ev.now _
theorem draw12_ev {c : List Int} {a s : Int} (h : Src c a s) : ∃ l a' s', Ev (fun k => spec_l12Draw.f k c a s) (l, a', s') ∧ Src c a' s' ∧ l.length ≤ 30 := by
  obtain ⟨l, a1, s1, e1, h1, hl1, hl2⟩ := good12_ev h
  obtain ⟨v, a2, s2, e2, h2, v0, v1⟩ := next_some h1 (l.length : Int) (by omega)
  obtain ⟨u, a3, s3, e3, h3, _, _⟩ := next_some h2 40 (by omega)
  have hv : v < (l.length : Int) := by omega
  have go : ∀ q, Ev (fun k => if u = 0 then ((spec_l01Pick.f c a3 s3 (([v, wrap64 (v - 1), (-1), (-2)] : List Int))).bind fun bt144 => (if 0 ≤ v then (if v < (l.length : Int) then (some ((l.set (v : Int).toNat (⟨bt144.1, (rd_T200 l v).f1⟩ : S200)), bt144.2.1, bt144.2.2)) else (none)) else (none))) else (if u = 1 then ((spec_l01Pick.f c a3 s3 (([(-1), 32, 33] : List Int))).bind fun bt151 => (if 0 ≤ v then (if v < (l.length : Int) then (some ((l.set (v : Int).toNat (⟨(rd_T200 l v).f0, bt151.1⟩ : S200)), bt151.2.1, bt151.2.2)) else (none)) else (none))) else (if u = 2 then (spec_l12Draw.l0 k l c a3 s3) else (if u = 3 then (if 0 ≤ (l.length : Int) then (some ((l.take (0 : Int).toNat), a3, s3)) else (none)) else (some (l, a3, s3)))))) q → Ev (fun k => spec_l12Draw.f k c a s) q := fun q hq => by
    unfold spec_l12Draw.f
    refine Ev.bind e1 ?_
    simp only [e2, e3, Option.bind_some]
    exact hq
  by_cases c0 : u = 0
  · obtain ⟨p, a4, s4, e4, h4, _⟩ := pick_some h3 [v, wrap64 (v - 1), (-1), (-2)] (by simp) (by simp)
    refine ⟨l.set v.toNat (⟨p, (rd_T200 l v).f1⟩ : S200), a4, s4, go _ ?_, h4, by simp; omega⟩
    simp only [if_pos c0, e4, Option.bind_some, if_pos v0, if_pos hv]
    exact Ev.now _
  · by_cases c1 : u = 1
    · obtain ⟨p, a4, s4, e4, h4, _⟩ := pick_some h3 [(-1), 32, 33] (by simp) (by simp)
      refine ⟨l.set v.toNat (⟨(rd_T200 l v).f0, p⟩ : S200), a4, s4, go _ ?_, h4, by simp; omega⟩
      simp only [if_neg c0, if_pos c1, e4, Option.bind_some, if_pos v0, if_pos hv]
      exact Ev.now _
    · by_cases c2 : u = 2
      · obtain ⟨l', a', s', e, hs, hl⟩ := fill12_l0 c 14 l a3 s3 h3 (by omega) (by omega)
        refine ⟨l', a', s', go _ ?_, hs, hl⟩
        simp only [if_neg c0, if_neg c1, if_pos c2]
        exact e
      · by_cases c3 : u = 3
        · refine ⟨l.take (0 : Int).toNat, a3, s3, go _ ?_, h3, by simp⟩
          simp only [if_neg c0, if_neg c1, if_neg c2, if_pos c3, if_pos (show 0 ≤ (l.length : Int) by omega)]
          exact Ev.now _
        · refine ⟨l, a3, s3, go _ ?_, h3, by omega⟩
          simp only [if_neg c0, if_neg c1, if_neg c2, if_neg c3]
          exact Ev.now _
theorem ev_allI {L : Int → Nat → Option Bool} {Q : Int → Prop} {n : Int} {fin : Bool} (h1 : ∀ i, 0 ≤ i → i < n → (∀ j, 0 ≤ j → j < i → Q j) → Q i → ∀ r, Ev (L (i + 1)) r → Ev (L i) r) (h2 : ∀ i, 0 ≤ i → i < n → (∀ j, 0 ≤ j → j < i → Q j) → ¬ Q i → Ev (L i) false) (h3 : Ev (L n) fin) :
    ∀ (d : Nat) (i : Int), 0 ≤ i → i + d = n → (∀ j, 0 ≤ j → j < i → Q j) → Ev (L i) (fin && tt (∀ j, i ≤ j → j < n → Q j))
  | 0, i, h0, hd, hp => by
    have e : i = n := by omega
    rw [e, tt_pos (fun j h1 h2 => by omega), Bool.and_true]
    exact h3
  | d + 1, i, h0, hd, hp => by
    by_cases hq : Q i
    · have := h1 i h0 (by omega) hp hq _ (ev_allI h1 h2 h3 d (i + 1) (by omega) (by omega) (fun j j0 j1 => by
        by_cases e : j = i
        · rw [e]; exact hq
        · exact hp j j0 (by omega)))
      refine Ev_eq this ?_
      congr 1
      exact tt_iff ⟨fun h j h1 h2 => by
        by_cases e : j = i
        · rw [e]; exact hq
        · exact h j (by omega) h2, fun h j h1 h2 => h j (by omega) h2⟩
    · rw [tt_neg (fun h => hq (h i (Int.le_refl _) (by omega))), Bool.and_false]
      exact h2 i h0 (by omega) hp hq
/-- Wires. -/
def MW (w : List S160) (m p j : Int) : Prop := (rd_T160 w j).f1 = m ∧ (rd_T160 w j).f2 = p
def PPin (l : List S200) (m p : Int) : Prop := (0 ≤ m ∧ m ≤ (l.length : Int) - 1) ∧ 0 ≤ p ∧ p ≤ (rd_T200 l m).f1 - 1
def QW (l : List S200) (n : Int) (w : List S160) (i : Int) : Prop :=
  (0 ≤ (rd_T160 w i).f0 ∧ (rd_T160 w i).f0 ≤ n - 1) ∧ PPin l (rd_T160 w i).f1 (rd_T160 w i).f2 ∧ (0 < i → (rd_T160 w (i - 1)).f0 < (rd_T160 w i).f0) ∧ ∀ j : Int, 0 ≤ j → j < i → ¬ MW w (rd_T160 w i).f1 (rd_T160 w i).f2 j
def PWires (l : List S200) (n : Int) (w : List S160) : Prop := PMods l ∧ (0 ≤ n ∧ n ≤ 20) ∧ ∀ i : Int, 0 ≤ i → i < w.length → QW l n w i
theorem spec_l13At_l0 (w : List S160) (hn : w.length ≤ 2000000) (m p : Int) : ∀ (d : Nat) (i : Int), 0 ≤ i → i + d = w.length → (∀ j : Int, 0 ≤ j → j < i → ¬ MW w m p j) → ∃ r, Ev (fun k => spec_l13At.l0 k w m p i) r ∧ ((r = -1 ∧ ∀ j : Int, 0 ≤ j → j < w.length → ¬ MW w m p j) ∨ (0 ≤ r ∧ r < w.length ∧ MW w m p r ∧ ∀ j : Int, 0 ≤ j → j < r → ¬ MW w m p j))
  | 0, i, h0, hd, hp => by
    refine ⟨-1, Ev_shift ?_, .inl ⟨rfl, fun j j0 j1 => hp j j0 (by omega)⟩⟩
    simp only [spec_l13At.l0, if_neg (show ¬ i < (w.length : Int) by omega)]
    exact Ev.now _
  | d + 1, i, h0, hd, hp => by
    have hi : i < (w.length : Int) := by omega
    have more : ¬ MW w m p i → ∃ r, Ev (fun k => spec_l13At.l0 k w m p (i + 1)) r ∧ ((r = -1 ∧ ∀ j : Int, 0 ≤ j → j < w.length → ¬ MW w m p j) ∨ (0 ≤ r ∧ r < w.length ∧ MW w m p r ∧ ∀ j : Int, 0 ≤ j → j < r → ¬ MW w m p j)) := fun hm => spec_l13At_l0 w hn m p d (i + 1) (by omega) (by omega) (fun j j0 j1 => by
      by_cases e : j = i
      · rw [e]; exact hm
      · exact hp j j0 (by omega))
    by_cases c1 : (rd_T160 w i).f1 = m
    · by_cases c2 : (rd_T160 w i).f2 = p
      · refine ⟨i, Ev_shift ?_, .inr ⟨h0, hi, ⟨c1, c2⟩, hp⟩⟩
        simp only [spec_l13At.l0, if_pos hi, if_pos h0, if_pos c1, if_pos c2]
        exact Ev.now _
      · obtain ⟨r, e, hr⟩ := more (fun h => c2 h.2)
        refine ⟨r, Ev_shift ?_, hr⟩
        simp only [spec_l13At.l0, if_pos hi, if_pos h0, if_pos c1, if_neg c2, w64 (n := i + 1) (by omega)]
        exact e
    · obtain ⟨r, e, hr⟩ := more (fun h => c1 h.1)
      refine ⟨r, Ev_shift ?_, hr⟩
      simp only [spec_l13At.l0, if_pos hi, if_pos h0, if_neg c1, w64 (n := i + 1) (by omega)]
      exact e
theorem spec_l13At_ev (w : List S160) (hn : w.length ≤ 2000000) (m p : Int) : ∃ r, Ev (fun k => spec_l13At.f k w m p) r ∧ ((r = -1 ∧ ∀ j : Int, 0 ≤ j → j < w.length → ¬ MW w m p j) ∨ (0 ≤ r ∧ r < w.length ∧ MW w m p r ∧ ∀ j : Int, 0 ≤ j → j < r → ¬ MW w m p j)) := by
  unfold spec_l13At.f
  exact spec_l13At_l0 w hn m p w.length 0 (by omega) (by omega) (fun j j0 j1 => by omega)
theorem impl_cueAt_l0 (w : List S160) (hn : w.length ≤ 2000000) (m p : Int) : ∀ (d : Nat) (i : Int), 0 ≤ i → i + d = w.length → (∀ j : Int, 0 ≤ j → j < i → ¬ MW w m p j) → ∃ r, Ev (fun k => impl_cueAt.l0 k m p w w.length i) r ∧ ((r = -1 ∧ ∀ j : Int, 0 ≤ j → j < w.length → ¬ MW w m p j) ∨ ∃ q : Int, 0 ≤ q ∧ q < w.length ∧ MW w m p q ∧ r = (rd_T160 w q).f0)
  | 0, i, h0, hd, hp => by
    refine ⟨-1, Ev_shift ?_, .inl ⟨rfl, fun j j0 j1 => hp j j0 (by omega)⟩⟩
    simp only [impl_cueAt.l0, if_neg (show ¬ i < (w.length : Int) by omega)]
    exact Ev.now _
  | d + 1, i, h0, hd, hp => by
    have hi : i < (w.length : Int) := by omega
    have more : ¬ MW w m p i → ∃ r, Ev (fun k => impl_cueAt.l0 k m p w w.length (i + 1)) r ∧ ((r = -1 ∧ ∀ j : Int, 0 ≤ j → j < w.length → ¬ MW w m p j) ∨ ∃ q : Int, 0 ≤ q ∧ q < w.length ∧ MW w m p q ∧ r = (rd_T160 w q).f0) := fun hm => impl_cueAt_l0 w hn m p d (i + 1) (by omega) (by omega) (fun j j0 j1 => by
      by_cases e : j = i
      · rw [e]; exact hm
      · exact hp j j0 (by omega))
    by_cases c1 : (rd_T160 w i).f1 = m
    · by_cases c2 : (rd_T160 w i).f2 = p
      · refine ⟨_, Ev_shift ?_, .inr ⟨i, h0, hi, ⟨c1, c2⟩, rfl⟩⟩
        simp only [impl_cueAt.l0, if_pos hi, if_pos h0, if_pos c1, if_pos c2]
        exact Ev.now _
      · obtain ⟨r, e, hr⟩ := more (fun h => c2 h.2)
        refine ⟨r, Ev_shift ?_, hr⟩
        simp only [impl_cueAt.l0, if_pos hi, if_pos h0, if_pos c1, if_neg c2, w64 (n := i + 1) (by omega)]
        exact e
    · obtain ⟨r, e, hr⟩ := more (fun h => c1 h.1)
      refine ⟨r, Ev_shift ?_, hr⟩
      simp only [impl_cueAt.l0, if_pos hi, if_pos h0, if_neg c1, w64 (n := i + 1) (by omega)]
      exact e
theorem impl_cueAt_ev (w : List S160) (hn : w.length ≤ 2000000) (m p : Int) : ∃ r, Ev (fun k => impl_cueAt.f k w m p) r ∧ ((r = -1 ∧ ∀ j : Int, 0 ≤ j → j < w.length → ¬ MW w m p j) ∨ ∃ q : Int, 0 ≤ q ∧ q < w.length ∧ MW w m p q ∧ r = (rd_T160 w q).f0) := by
  unfold impl_cueAt.f
  exact impl_cueAt_l0 w hn m p w.length 0 (by omega) (by omega) (fun j j0 j1 => by omega)
theorem spec_pin_eq {l : List S200} (h : PMods l) (m p : Int) : spec_l13Pin.f l m p = some (tt (PPin l m p)) := by
  have hl := h.2.1
  unfold spec_l13Pin.f
  rw [w64 (n := (l.length : Int) - 1) (by omega), l01In_eq, Option.bind_some]
  by_cases c : 0 ≤ m ∧ m ≤ (l.length : Int) - 1
  · have hp := h.2.2 m c.1 (by omega)
    unfold PM at hp
    rw [decide_eq_true c, if_pos rfl, if_pos c.1, if_pos (by omega), w64 (n := (rd_T200 l m).f1 - 1) (by omega), l01In_eq, Option.bind_some, ← tt_dec]
    congr 1
    exact tt_iff ⟨fun h => ⟨c, h⟩, fun h => h.2⟩
  · rw [decide_eq_false c, if_neg (by decide), tt_neg (fun h => c h.1)]
theorem impl_pin_eq {l : List S200} (h : PMods l) (m p : Int) : impl_isPin.f l m p = some (tt (PPin l m p)) := by
  have hl := h.2.1
  unfold impl_isPin.f impl_isIndex.f
  rw [w64 (n := (l.length : Int) - 1) (by omega), within_eq, Option.bind_some, Option.bind_some]
  by_cases c : 0 ≤ m ∧ m ≤ (l.length : Int) - 1
  · have hp := h.2.2 m c.1 (by omega)
    unfold PM at hp
    rw [decide_eq_true c, if_pos rfl, if_pos c.1, if_pos (by omega), w64 (n := (rd_T200 l m).f1 - 1) (by omega), within_eq, Option.bind_some, ← tt_dec]
    congr 1
    exact tt_iff ⟨fun h => ⟨c, h⟩, fun h => h.2⟩
  · rw [decide_eq_false c, if_neg (by decide), tt_neg (fun h => c h.1)]
theorem spec_AreWires_ev (l : List S200) (hl : l.length ≤ 1000000) (n : Int) (w : List S160) (hn : w.length ≤ 1000000) : Ev (fun k => spec_AreWires.f k l n w) (tt (PWires l n w)) := by
  have hs := spec_AreModules_ev l (by omega)
  have bad : ¬ PWires l n w → Ev (fun k => spec_AreWires.j0 k l n w true) (tt (PWires l n w)) := fun h => by
    refine Ev_shift ?_
    simp only [spec_AreWires.j0, if_true]
    exact Ev_some (tt_neg h).symm
  unfold spec_AreWires.f
  refine Ev.bind hs ?_
  by_cases h : PMods l
  · by_cases c : 0 ≤ n ∧ n ≤ 20
    · simp only [tt_pos h, if_true, l01In_eq, Option.bind_some, decide_eq_true c, Bool.not_true]
      refine Ev_shift ?_
      simp only [spec_AreWires.j0, Bool.false_eq_true, if_false]
      have := ev_allI (L := fun i k => spec_AreWires.l0 k l n w i) (Q := QW l n w) (n := w.length) (fin := true)
        (fun i h0 h1 hp hq r hr => by
          have hc := hq.1
          obtain ⟨z, ez, hz⟩ := spec_l13At_ev w (by omega) (rd_T160 w i).f1 (rd_T160 w i).f2
          have e : z = i := by
            rcases hz with ⟨_, hz⟩ | ⟨z0, z1, zm, hz⟩
            · exact absurd ⟨rfl, rfl⟩ (hz i h0 h1)
            · rcases Int.lt_or_le z i with g | g
              · exact absurd zm (hq.2.2.2 z z0 g)
              · rcases Int.lt_or_le i z with g2 | g2
                · exact absurd ⟨rfl, rfl⟩ (hz i h0 g2)
                · omega
          refine Ev_shift ?_
          simp only [spec_AreWires.l0, if_pos h1, if_pos h0, w64 (n := n - 1) (by omega), l01In_eq, Option.bind_some, decide_eq_true_eq, if_pos hc, spec_pin_eq h, tt_pos hq.2.1, if_true, w64 (n := i + 1) (by omega)]
          by_cases hi : i > 0
          · have := hq.2.2.1 hi
            simp only [if_pos hi, w64 (n := i - 1) (by omega), if_pos (show 0 ≤ i - 1 by omega), if_pos (show i - 1 < (w.length : Int) by omega), if_neg (show ¬ (rd_T160 w (i - 1)).f0 ≥ (rd_T160 w i).f0 by omega)]
            refine Ev.bind ez ?_
            simp only [if_pos e]
            exact hr
          · simp only [if_neg hi]
            refine Ev.bind ez ?_
            simp only [if_pos e]
            exact hr)
        (fun i h0 h1 hp hq => by
          obtain ⟨z, ez, hz⟩ := spec_l13At_ev w (by omega) (rd_T160 w i).f1 (rd_T160 w i).f2
          refine Ev_shift ?_
          simp only [spec_AreWires.l0, if_pos h1, if_pos h0, w64 (n := n - 1) (by omega), l01In_eq, Option.bind_some, decide_eq_true_eq, spec_pin_eq h, w64 (n := i + 1) (by omega)]
          by_cases q1 : 0 ≤ (rd_T160 w i).f0 ∧ (rd_T160 w i).f0 ≤ n - 1
          · by_cases q2 : PPin l (rd_T160 w i).f1 (rd_T160 w i).f2
            · have last : (0 < i → (rd_T160 w (i - 1)).f0 < (rd_T160 w i).f0) → ¬ z = i := fun q3 e => by
                rcases hz with ⟨g, _⟩ | ⟨z0, z1, zm, hz⟩
                · omega
                · exact hq ⟨q1, q2, q3, fun j j0 j1 => hz j j0 (by omega)⟩
              simp only [if_pos q1, tt_pos q2, if_true]
              by_cases hi : i > 0
              · simp only [if_pos hi, w64 (n := i - 1) (by omega), if_pos (show 0 ≤ i - 1 by omega), if_pos (show i - 1 < (w.length : Int) by omega)]
                by_cases q3 : (rd_T160 w (i - 1)).f0 ≥ (rd_T160 w i).f0
                · simp only [if_pos q3]
                  exact Ev.now _
                · simp only [if_neg q3]
                  refine Ev.bind ez ?_
                  simp only [if_neg (last (fun _ => by omega))]
                  exact Ev.now _
              · simp only [if_neg hi]
                refine Ev.bind ez ?_
                simp only [if_neg (last (fun g => absurd g hi))]
                exact Ev.now _
            · simp only [if_pos q1, tt_neg q2, Bool.false_eq_true, if_false]
              exact Ev.now _
          · simp only [if_neg q1]
            exact Ev.now _)
        (by
          refine Ev_shift ?_
          simp only [spec_AreWires.l0, if_neg (show ¬ (w.length : Int) < w.length by omega)]
          exact Ev.now _) w.length 0 (by omega) (by omega) (fun j j0 j1 => by omega)
      refine Ev_eq this ?_
      rw [Bool.true_and]
      exact tt_iff ⟨fun g => ⟨h, c, fun i i0 i1 => g i i0 i1⟩, fun g i i0 i1 => g.2.2 i i0 i1⟩
    · simp only [tt_pos h, if_true, l01In_eq, Option.bind_some, decide_eq_false c, Bool.not_false]
      exact bad (fun g => c g.2.1)
  · simp only [tt_neg h, Bool.false_eq_true, if_false]
    exact bad (fun g => h g.1)
theorem impl_AreWires_ev (l : List S200) (hl : l.length ≤ 1000000) (n : Int) (w : List S160) (hn : w.length ≤ 1000000) : Ev (fun k => impl_AreWires.f k l n w) (tt (PWires l n w)) := by
  have hs := impl_AreModules_ev l (by omega)
  have bad : ¬ PWires l n w → Ev (fun k => impl_AreWires.j0 k l n w true) (tt (PWires l n w)) := fun h => by
    refine Ev_shift ?_
    simp only [impl_AreWires.j0, if_true]
    exact Ev_some (tt_neg h).symm
  unfold impl_AreWires.f
  refine Ev.bind hs ?_
  by_cases h : PMods l
  · by_cases c : 0 ≤ n ∧ n ≤ 20
    · simp only [tt_pos h, if_true, within_eq, Option.bind_some, decide_eq_true c, Bool.not_true]
      refine Ev_shift ?_
      simp only [impl_AreWires.j0, Bool.false_eq_true, if_false]
      have rt : ∀ (i j : Int), 0 ≤ j → j < i → i < w.length → rd_T160 (w.take i.toNat) j = rd_T160 w j := fun i j j0 j1 i1 => by
        show List.getD _ _ _ = List.getD _ _ _
        rw [List.getD_eq_getElem?_getD, List.getD_eq_getElem?_getD, List.getElem?_take, if_pos (by omega)]
      have look : ∀ i : Int, 0 ≤ i → i < w.length → (∀ j, 0 ≤ j → j < i → QW l n w j) → ∃ z, Ev (fun k => impl_cueAt.f k (w.take i.toNat) (rd_T160 w i).f1 (rd_T160 w i).f2) z ∧ (z ≥ 0 ↔ ¬ ∀ j : Int, 0 ≤ j → j < i → ¬ MW w (rd_T160 w i).f1 (rd_T160 w i).f2 j) := fun i h0 h1 hp => by
        have hlen : ((w.take i.toNat).length : Int) = i := by rw [List.length_take]; omega
        obtain ⟨z, ez, hz⟩ := impl_cueAt_ev (w.take i.toNat) (by rw [List.length_take]; omega) (rd_T160 w i).f1 (rd_T160 w i).f2
        refine ⟨z, ez, ?_⟩
        rw [hlen] at hz
        rcases hz with ⟨rfl, hz⟩ | ⟨q, q0, q1, qm, rfl⟩
        · refine ⟨fun g => by omega, fun g => absurd (fun j j0 j1 hm => hz j j0 j1 ?_) g⟩
          unfold MW at hm ⊢
          rw [rt i j j0 j1 h1]
          exact hm
        · unfold MW at qm
          rw [rt i q q0 q1 h1] at qm ⊢
          have := (hp q q0 q1).1
          exact ⟨fun _ g => g q q0 q1 qm, fun _ => by omega⟩
      have step : ∀ i a b c' , 0 ≤ i → i < (w.length : Int) → a = (rd_T160 w i).f0 → b = (rd_T160 w i).f1 → c' = (rd_T160 w i).f2 → (∀ j, 0 ≤ j → j < i → QW l n w j) → ∀ r, ((∀ j : Int, 0 ≤ j → j < i → ¬ MW w (rd_T160 w i).f1 (rd_T160 w i).f2 j) → Ev (fun k => impl_AreWires.l0 k l n w w w.length (i + 1)) r) → (¬ (∀ j : Int, 0 ≤ j → j < i → ¬ MW w (rd_T160 w i).f1 (rd_T160 w i).f2 j) → r = false) → Ev (fun k => impl_AreWires.j2 k l n w i w w.length i false a b c') r := fun i a b c' h0 h1 ea eb ec hp r hr hf => by
        subst ea eb ec
        obtain ⟨z, ez, hz⟩ := look i h0 h1 hp
        refine Ev_shift ?_
        simp only [impl_AreWires.j2, Bool.false_eq_true, if_false, if_pos h0, if_pos (show i ≤ (w.length : Int) by omega)]
        refine Ev.bind ez ?_
        by_cases g : z ≥ 0
        · simp only [if_pos g]
          exact Ev_some (hf (hz.1 g)).symm
        · simp only [if_neg g, w64 (n := i + 1) (by omega)]
          refine hr ?_
          by_cases y : ∀ j : Int, 0 ≤ j → j < i → ¬ MW w (rd_T160 w i).f1 (rd_T160 w i).f2 j
          · exact y
          · exact absurd (hz.2 y) g
      have no : ∀ i a b c', Ev (fun k => impl_AreWires.j2 k l n w i w w.length i true a b c') false := fun i a b c' => by
        refine Ev_shift ?_
        simp only [impl_AreWires.j2, if_true]
        exact Ev.now _
      have := ev_allI (L := fun i k => impl_AreWires.l0 k l n w w w.length i) (Q := QW l n w) (n := w.length) (fin := true)
        (fun i h0 h1 hp hq r hr => by
          have hc := hq.1
          refine Ev_shift ?_
          simp only [impl_AreWires.l0, if_pos h1, if_pos h0, w64 (n := n - 1) (by omega), within_eq, Option.bind_some, decide_eq_true_eq, if_pos hc, impl_pin_eq h, tt_pos hq.2.1, if_true]
          by_cases hi : i > 0
          · have := hq.2.2.1 hi
            simp only [if_pos hi, w64 (n := i - 1) (by omega), if_pos (show 0 ≤ i - 1 by omega), if_pos (show i - 1 < (w.length : Int) by omega), decide_eq_false (show ¬ (rd_T160 w (i - 1)).f0 ≥ (rd_T160 w i).f0 by omega)]
            exact step i _ _ _ h0 h1 rfl rfl rfl hp r (fun _ => hr) (fun g => absurd hq.2.2.2 g)
          · simp only [if_neg hi]
            exact step i _ _ _ h0 h1 rfl rfl rfl hp r (fun _ => hr) (fun g => absurd hq.2.2.2 g))
        (fun i h0 h1 hp hq => by
          refine Ev_shift ?_
          simp only [impl_AreWires.l0, if_pos h1, if_pos h0, w64 (n := n - 1) (by omega), within_eq, Option.bind_some, decide_eq_true_eq, impl_pin_eq h]
          by_cases q1 : 0 ≤ (rd_T160 w i).f0 ∧ (rd_T160 w i).f0 ≤ n - 1
          · by_cases q2 : PPin l (rd_T160 w i).f1 (rd_T160 w i).f2
            · simp only [if_pos q1, tt_pos q2, if_true]
              by_cases hi : i > 0
              · simp only [if_pos hi, w64 (n := i - 1) (by omega), if_pos (show 0 ≤ i - 1 by omega), if_pos (show i - 1 < (w.length : Int) by omega)]
                by_cases q3 : (rd_T160 w (i - 1)).f0 ≥ (rd_T160 w i).f0
                · simp only [decide_eq_true q3]
                  exact no i _ _ _
                · simp only [decide_eq_false q3]
                  exact step i _ _ _ h0 h1 rfl rfl rfl hp false (fun g => absurd ⟨q1, q2, fun _ => by omega, g⟩ hq) (fun _ => rfl)
              · simp only [if_neg hi]
                exact step i _ _ _ h0 h1 rfl rfl rfl hp false (fun g => absurd ⟨q1, q2, fun g2 => absurd g2 hi, g⟩ hq) (fun _ => rfl)
            · simp only [if_pos q1, tt_neg q2, Bool.false_eq_true, if_false]
              exact no i _ _ _
          · simp only [if_neg q1]
            exact no i _ _ _)
        (by
          refine Ev_shift ?_
          simp only [impl_AreWires.l0, if_neg (show ¬ (w.length : Int) < w.length by omega)]
          exact Ev.now _) w.length 0 (by omega) (by omega) (fun j j0 j1 => by omega)
      refine Ev_eq this ?_
      rw [Bool.true_and]
      exact tt_iff ⟨fun g => ⟨h, c, fun i i0 i1 => g i i0 i1⟩, fun g i i0 i1 => g.2.2 i i0 i1⟩
    · simp only [tt_pos h, if_true, within_eq, Option.bind_some, decide_eq_false c, Bool.not_false]
      exact bad (fun g => c g.2.1)
  · simp only [tt_neg h, Bool.false_eq_true, if_false]
    exact bad (fun g => h g.1)
theorem wcode_ev (l : List S200) (hl : l.length ≤ 1000000) (n : Int) (w : List S160) (hn : w.length ≤ 1000000) (m c : Int) : Ev (fun k => spec_l13Code.f k l n w m c) (if tt (PWires l n w) = true then (if (0 ≤ m ∧ m ≤ (l.length : Int) - 1) ∧ 0 ≤ c ∧ c ≤ max 0 (n - 1) then 0 else 2) else 1) := by
  unfold spec_l13Code.f
  refine Ev.bind (spec_AreWires_ev l hl n w hn) ?_
  by_cases h : PWires l n w
  · have h1 := h.2.1
    simp only [tt_pos h, if_true, w64 (n := (l.length : Int) - 1) (by omega), w64 (n := n - 1) (by omega), mx_eq, l01In_eq, Option.bind_some, decide_eq_true_eq]
    by_cases c1 : 0 ≤ m ∧ m ≤ (l.length : Int) - 1
    · by_cases c2 : 0 ≤ c ∧ c ≤ max 0 (n - 1)
      · simp only [if_pos c1, if_pos c2, if_pos (show (0 ≤ m ∧ m ≤ (l.length : Int) - 1) ∧ 0 ≤ c ∧ c ≤ max 0 (n - 1) from ⟨c1, c2⟩)]
        exact Ev.now _
      · simp only [if_pos c1, if_neg c2, if_neg (show ¬ ((0 ≤ m ∧ m ≤ (l.length : Int) - 1) ∧ 0 ≤ c ∧ c ≤ max 0 (n - 1)) from fun g => c2 g.2)]
        exact Ev.now _
    · simp only [if_neg c1, if_neg (show ¬ ((0 ≤ m ∧ m ≤ (l.length : Int) - 1) ∧ 0 ≤ c ∧ c ≤ max 0 (n - 1)) from fun g => c1 g.1)]
      exact Ev.now _
  · simp only [tt_neg h, Bool.false_eq_true, if_false]
    exact Ev.now _
/-- The index of the wire of a cue, from the index i on, or -1. -/
def findW (c : Int) : List S160 → Int → Int
  | [], _ => -1
  | a :: s, i => if a.f0 = c then i else findW c s (i + 1)
theorem findW_cases (c : Int) : ∀ (s : List S160) (i : Int), (findW c s i = -1 ∧ ∀ a ∈ s, ¬ a.f0 = c) ∨ ∃ p a t, s = p ++ a :: t ∧ a.f0 = c ∧ (∀ b ∈ p, ¬ b.f0 = c) ∧ findW c s i = i + (p.length : Int)
  | [], i => .inl ⟨rfl, by simp⟩
  | a :: s, i => by
    unfold findW
    by_cases h : a.f0 = c
    · rw [if_pos h]
      exact .inr ⟨[], a, s, rfl, h, by simp, by simp⟩
    · rw [if_neg h]
      rcases findW_cases c s (i + 1) with ⟨e, hn⟩ | ⟨p, b, t, rfl, hb, hp, e⟩
      · refine .inl ⟨e, fun x hx => ?_⟩
        rcases List.mem_cons.1 hx with rfl | hx
        · exact h
        · exact hn x hx
      · refine .inr ⟨a :: p, b, t, rfl, hb, fun x hx => ?_, by rw [e]; simp; omega⟩
        rcases List.mem_cons.1 hx with rfl | hx
        · exact h
        · exact hp x hx
/-- Wires in the order of their cues, with one more at its place. -/
def insW (x : S160) : List S160 → List S160
  | [] => [x]
  | a :: s => if a.f0 < x.f0 then a :: insW x s else x :: a :: s
theorem insW_length (x : S160) : ∀ s : List S160, (insW x s).length = s.length + 1
  | [] => rfl
  | a :: s => by
    unfold insW
    split
    · rw [List.length_cons, List.length_cons, insW_length x s]
    · rfl
theorem insW_mem (x : S160) : ∀ (s : List S160) (y : S160), y ∈ insW x s ↔ y = x ∨ y ∈ s
  | [], y => by simp [insW]
  | a :: s, y => by
    unfold insW
    split
    · rw [List.mem_cons, insW_mem x s y, List.mem_cons]
      exact ⟨fun h => by rcases h with h | h | h <;> simp [h], fun h => by rcases h with h | h | h <;> simp [h]⟩
    · simp
theorem insW_last (x a : S160) (ha : ¬ a.f0 < x.f0) : ∀ p : List S160, insW x (p ++ [a]) = insW x p ++ [a]
  | [] => by simp [insW, ha]
  | b :: p => by
    simp only [List.cons_append, insW]
    split
    · rw [insW_last x a ha p, List.cons_append]
    · simp
theorem insW_all (x : S160) : ∀ p : List S160, (∀ b ∈ p, b.f0 < x.f0) → insW x p = p ++ [x]
  | [], _ => rfl
  | b :: p, h => by
    simp only [List.cons_append, insW, if_pos (h b (by simp)), insW_all x p (fun c hc => h c (by simp [hc]))]
/-- Cues in order. -/
def AscW : List S160 → Prop := List.Pairwise (fun a b => a.f0 < b.f0)
theorem AscW_ins (x : S160) : ∀ s : List S160, AscW s → (∀ b ∈ s, ¬ b.f0 = x.f0) → AscW (insW x s)
  | [], _, _ => by simp [insW, AscW]
  | a :: s, h, hn => by
    unfold AscW at h ⊢
    rw [List.pairwise_cons] at h
    unfold insW
    by_cases c : a.f0 < x.f0
    · rw [if_pos c, List.pairwise_cons]
      refine ⟨fun y hy => ?_, AscW_ins x s h.2 (fun b hb => hn b (by simp [hb]))⟩
      rcases (insW_mem x s y).1 hy with rfl | hy
      · exact c
      · exact h.1 y hy
    · have hx : x.f0 < a.f0 := by have := hn a (by simp); omega
      rw [if_neg c, List.pairwise_cons]
      refine ⟨fun y hy => ?_, List.pairwise_cons.2 h⟩
      rcases List.mem_cons.1 hy with rfl | hy
      · exact hx
      · have := h.1 y hy
        omega
theorem AscW_of {l : List S200} {n : Int} {w : List S160} (h : PWires l n w) : AscW w := by
  have step : ∀ d i : Nat, i + d + 1 < w.length → (rd_T160 w (i : Int)).f0 < (rd_T160 w ((i + d + 1 : Nat) : Int)).f0 := fun d => by
    induction d with
    | zero =>
      intro i hi
      have := (h.2.2 ((i + 0 + 1 : Nat) : Int) (by omega) (by omega)).2.2.1 (by omega)
      rw [show (((i + 0 + 1 : Nat) : Int) - 1) = (i : Int) by omega] at this
      exact this
    | succ d ih =>
      intro i hi
      have h1 := ih i (by omega)
      have := (h.2.2 ((i + (d + 1) + 1 : Nat) : Int) (by omega) (by omega)).2.2.1 (by omega)
      rw [show (((i + (d + 1) + 1 : Nat) : Int) - 1) = ((i + d + 1 : Nat) : Int) by omega] at this
      omega
  have e : ∀ (i : Nat) (hi : i < w.length), rd_T160 w (i : Int) = w[i] := fun i hi => by
    show w.getD _ _ = _
    rw [Int.toNat_natCast, List.getD_eq_getElem?_getD, List.getElem?_eq_getElem hi]
    rfl
  refine List.pairwise_iff_getElem.2 fun i j hi hj hij => ?_
  have := step (j - i - 1) i (by omega)
  rw [show i + (j - i - 1) + 1 = j by omega, e i hi, e j hj] at this
  exact this
/-- The free pins of a module. -/
noncomputable def freeP (w : List S160) (m p : Int) : Bool := tt (∀ j : Int, 0 ≤ j → j < w.length → ¬ MW w m p j)
noncomputable def freeF (l : List S200) (w : List S160) (m : Int) : List Int := idxF (freeP w m) ((rd_T200 l m).f1).toNat 0
theorem spec_free {l : List S200} (h : PMods l) (w : List S160) (hw : w.length ≤ 2000000) {m : Int} (h0 : 0 ≤ m) (h1 : m < l.length) : Ev (fun k => spec_l13Free.f k l w m) (freeF l w m) := by
  have hp := h.2.2 m h0 h1
  unfold PM at hp
  unfold spec_l13Free.f
  have := ev_filter (L := fun i out k => spec_l13Free.l0 k l w m out i) (p := freeP w m) (n := (rd_T200 l m).f1) (fin := fun out => out)
    (fun i out i0 i1 i2 hq r hr => by
      obtain ⟨z, ez, hz⟩ := spec_l13At_ev w (by omega) m i
      refine Ev_shift ?_
      simp only [spec_l13Free.l0, if_pos h0, if_pos h1, if_pos i1]
      refine Ev.bind ez ?_
      have hz0 : z < 0 := by
        rcases hz with ⟨rfl, _⟩ | ⟨z0, z1, zm, _⟩
        · omega
        · exact absurd zm ((tt_eq_true.1 hq) z z0 z1)
      simp only [if_pos hz0, if_pos (show out.length < 17592186044416 by omega), w64 (n := i + 1) (by omega)]
      exact hr)
    (fun i out i0 i1 i2 hq r hr => by
      obtain ⟨z, ez, hz⟩ := spec_l13At_ev w (by omega) m i
      refine Ev_shift ?_
      simp only [spec_l13Free.l0, if_pos h0, if_pos h1, if_pos i1]
      refine Ev.bind ez ?_
      have hz0 : ¬ z < 0 := by
        rcases hz with ⟨_, hn⟩ | ⟨z0, _⟩
        · have := tt_eq_true.2 hn
          unfold freeP at hq
          rw [this] at hq
          cases hq
        · omega
      simp only [if_neg hz0, w64 (n := i + 1) (by omega)]
      exact hr)
    (fun out h2 => by
      refine Ev_shift ?_
      simp only [spec_l13Free.l0, if_pos h0, if_pos h1, if_neg (show ¬ (rd_T200 l m).f1 < (rd_T200 l m).f1 by omega)]
      exact Ev.now _) ((rd_T200 l m).f1).toNat 0 [] (by omega) (by omega) (by simp)
  exact this
theorem impl_free {l : List S200} (h : PMods l) (w : List S160) (hw : w.length ≤ 2000000) (hc : ∀ x ∈ w, 0 ≤ x.f0) {m : Int} (h0 : 0 ≤ m) (h1 : m < l.length) : Ev (fun k => impl_freePins.f k l w m) (freeF l w m) := by
  have hp := h.2.2 m h0 h1
  unfold PM at hp
  unfold impl_freePins.f
  have e : ∀ i : Int, 0 ≤ i → i < w.length → 0 ≤ (rd_T160 w i).f0 := fun i i0 i1 => by
    have hlt : i.toNat < w.length := by omega
    have e : rd_T160 w i = w[i.toNat] := by
      show w.getD i.toNat _ = _
      rw [List.getD_eq_getElem?_getD, List.getElem?_eq_getElem hlt]
      rfl
    rw [e]
    exact hc _ (List.getElem_mem hlt)
  have := ev_filter (L := fun i out k => impl_freePins.l0 k l w m out i) (p := freeP w m) (n := (rd_T200 l m).f1) (fin := fun out => out)
    (fun i out i0 i1 i2 hq r hr => by
      obtain ⟨z, ez, hz⟩ := impl_cueAt_ev w (by omega) m i
      refine Ev_shift ?_
      simp only [impl_freePins.l0, if_pos h0, if_pos h1, if_pos i1]
      refine Ev.bind ez ?_
      have hz0 : z < 0 := by
        rcases hz with ⟨rfl, _⟩ | ⟨q, q0, q1, qm, _⟩
        · omega
        · exact absurd qm ((tt_eq_true.1 hq) q q0 q1)
      simp only [if_pos hz0, if_pos (show out.length < 17592186044416 by omega), w64 (n := i + 1) (by omega)]
      exact hr)
    (fun i out i0 i1 i2 hq r hr => by
      obtain ⟨z, ez, hz⟩ := impl_cueAt_ev w (by omega) m i
      refine Ev_shift ?_
      simp only [impl_freePins.l0, if_pos h0, if_pos h1, if_pos i1]
      refine Ev.bind ez ?_
      have hz0 : ¬ z < 0 := by
        rcases hz with ⟨_, hn⟩ | ⟨q, q0, q1, _, rfl⟩
        · have := tt_eq_true.2 hn
          unfold freeP at hq
          rw [this] at hq
          cases hq
        · have := e q q0 q1
          omega
      simp only [if_neg hz0, w64 (n := i + 1) (by omega)]
      exact hr)
    (fun out h2 => by
      refine Ev_shift ?_
      simp only [impl_freePins.l0, if_pos h0, if_pos h1, if_neg (show ¬ (rd_T200 l m).f1 < (rd_T200 l m).f1 by omega)]
      exact Ev.now _) ((rd_T200 l m).f1).toNat 0 [] (by omega) (by omega) (by simp)
  exact this
theorem wcues {l : List S200} {n : Int} {w : List S160} (h : PWires l n w) : ∀ x ∈ w, 0 ≤ x.f0 ∧ x.f0 ≤ n - 1 := by
  intro x hx
  obtain ⟨i, hi, rfl⟩ := List.mem_iff_getElem.1 hx
  have := (h.2.2 (i : Int) (by omega) (by omega)).1
  have e : rd_T160 w (i : Int) = w[i] := by
    show w.getD _ _ = _
    rw [Int.toNat_natCast, List.getD_eq_getElem?_getD, List.getElem?_eq_getElem hi]
    rfl
  rw [e] at this
  exact this
theorem spec_find_l0 (l : List S160) (hn : l.length ≤ 1000000) (c : Int) : ∀ (s : List S160) (i : Int), 0 ≤ i → l.drop i.toNat = s → Ev (fun k => spec_l13Find.l0 k l c i) (findW c s i)
  | [], i, h0, h => by
    refine Ev_shift ?_
    simp only [spec_l13Find.l0, if_neg (drop_nil h0 h)]
    exact Ev.now _
  | a :: s, i, h0, h => by
    refine Ev_shift ?_
    obtain ⟨h1, h2, h3⟩ := drop_cons z160 h0 h
    have h2' : rd_T160 l i = a := h2
    unfold findW
    by_cases g : a.f0 = c
    · simp only [spec_l13Find.l0, if_pos h1, if_pos h0, h2', if_pos g]
      exact Ev.now _
    · simp only [spec_l13Find.l0, if_pos h1, if_pos h0, h2', if_neg g, w64 (n := i + 1) (by omega)]
      exact spec_find_l0 l hn c s (i + 1) (by omega) h3
theorem spec_find (l : List S160) (hn : l.length ≤ 1000000) (c : Int) : Ev (fun k => spec_l13Find.f k l c) (findW c l 0) := by
  unfold spec_l13Find.f
  exact spec_find_l0 l hn c l 0 (by omega) rfl
theorem impl_find_l0 (l : List S160) (hn : l.length ≤ 1000000) (c : Int) : ∀ (s : List S160) (i : Int), 0 ≤ i → l.drop i.toNat = s → Ev (fun k => impl_wireOf.l0 k c l l.length i) (findW c s i)
  | [], i, h0, h => by
    refine Ev_shift ?_
    simp only [impl_wireOf.l0, if_neg (drop_nil h0 h)]
    exact Ev.now _
  | a :: s, i, h0, h => by
    refine Ev_shift ?_
    obtain ⟨h1, h2, h3⟩ := drop_cons z160 h0 h
    have h2' : rd_T160 l i = a := h2
    unfold findW
    by_cases g : a.f0 = c
    · simp only [impl_wireOf.l0, if_pos h1, if_pos h0, h2', if_pos g]
      exact Ev.now _
    · simp only [impl_wireOf.l0, if_pos h1, if_pos h0, h2', if_neg g, w64 (n := i + 1) (by omega)]
      exact impl_find_l0 l hn c s (i + 1) (by omega) h3
theorem impl_find (l : List S160) (hn : l.length ≤ 1000000) (c : Int) : Ev (fun k => impl_wireOf.f k l c) (findW c l 0) := by
  unfold impl_wireOf.f
  exact impl_find_l0 l hn c l 0 (by omega) rfl
/-- The loose cues. -/
def looseF (n : Int) (w : List S160) : List Int := idxF (fun c => decide (findW c w 0 < 0)) n.toNat 0
theorem spec_loose (w : List S160) (hw : w.length ≤ 1000000) {n : Int} (hn : 0 ≤ n ∧ n ≤ 20) : Ev (fun k => spec_l13Loose.f k n w) (looseF n w) := by
  unfold spec_l13Loose.f
  have := ev_filter (L := fun i out k => spec_l13Loose.l0 k n w out i) (p := fun c => decide (findW c w 0 < 0)) (n := n) (fin := fun out => out)
    (fun i out i0 i1 i2 hq r hr => by
      refine Ev_shift ?_
      simp only [spec_l13Loose.l0, if_pos i1]
      refine Ev.bind (spec_find w hw i) ?_
      simp only [if_pos (of_decide_eq_true hq), if_pos (show out.length < 17592186044416 by omega), w64 (n := i + 1) (by omega)]
      exact hr)
    (fun i out i0 i1 i2 hq r hr => by
      refine Ev_shift ?_
      simp only [spec_l13Loose.l0, if_pos i1]
      refine Ev.bind (spec_find w hw i) ?_
      simp only [if_neg (of_decide_eq_false hq), w64 (n := i + 1) (by omega)]
      exact hr)
    (fun out h2 => by
      refine Ev_shift ?_
      simp only [spec_l13Loose.l0, if_neg (show ¬ n < n by omega)]
      exact Ev.now _) n.toNat 0 [] (by omega) (by omega) (by simp)
  exact this
theorem impl_loose (w : List S160) (hw : w.length ≤ 1000000) {n : Int} (hn : 0 ≤ n ∧ n ≤ 20) : Ev (fun k => impl_looseCues.f k n w) (looseF n w) := by
  unfold impl_looseCues.f
  have := ev_filter (L := fun i out k => impl_looseCues.l0 k n w out i) (p := fun c => decide (findW c w 0 < 0)) (n := n) (fin := fun out => out)
    (fun i out i0 i1 i2 hq r hr => by
      refine Ev_shift ?_
      simp only [impl_looseCues.l0, if_pos i1]
      refine Ev.bind (impl_find w hw i) ?_
      simp only [if_pos (of_decide_eq_true hq), if_pos (show out.length < 17592186044416 by omega), w64 (n := i + 1) (by omega)]
      exact hr)
    (fun i out i0 i1 i2 hq r hr => by
      refine Ev_shift ?_
      simp only [impl_looseCues.l0, if_pos i1]
      refine Ev.bind (impl_find w hw i) ?_
      simp only [if_neg (of_decide_eq_false hq), w64 (n := i + 1) (by omega)]
      exact hr)
    (fun out h2 => by
      refine Ev_shift ?_
      simp only [impl_looseCues.l0, if_neg (show ¬ n < n by omega)]
      exact Ev.now _) n.toNat 0 [] (by omega) (by omega) (by simp)
  exact this
theorem wlt {l : List S200} {n : Int} {w : List S160} (h : PWires l n w) {i j : Int} (i0 : 0 ≤ i) (ij : i < j) (j1 : j < w.length) : (rd_T160 w i).f0 < (rd_T160 w j).f0 := by
  have step : ∀ d : Nat, ∀ i : Int, 0 ≤ i → i + d + 1 < w.length → (rd_T160 w i).f0 < (rd_T160 w (i + d + 1)).f0 := fun d => by
    induction d with
    | zero =>
      intro i i0 hi
      have := (h.2.2 (i + (0 : Nat) + 1) (by omega) (by omega)).2.2.1 (by omega)
      rw [show i + ((0 : Nat) : Int) + 1 - 1 = i by omega] at this
      exact this
    | succ d ih =>
      intro i i0 hi
      have h1 := ih i i0 (by omega)
      have := (h.2.2 (i + (d + 1 : Nat) + 1) (by omega) (by omega)).2.2.1 (by omega)
      rw [show i + ((d + 1 : Nat) : Int) + 1 - 1 = i + (d : Int) + 1 by omega] at this
      omega
  have := step (j - i - 1).toNat i i0 (by omega)
  rw [show i + ((j - i - 1).toNat : Int) + 1 = j by omega] at this
  exact this
theorem winj {l : List S200} {n : Int} {w : List S160} (h : PWires l n w) {i j : Int} (i0 : 0 ≤ i) (i1 : i < w.length) (j0 : 0 ≤ j) (j1 : j < w.length) (e : (rd_T160 w i).f0 = (rd_T160 w j).f0) : i = j := by
  rcases Int.lt_or_le i j with g | g
  · have := wlt h i0 g j1
    omega
  · rcases Int.lt_or_le j i with g2 | g2
    · have := wlt h j0 g2 i1
      omega
    · omega
theorem findW_at (w : List S160) (c : Int) : (findW c w 0 = -1 ∧ ∀ a ∈ w, ¬ a.f0 = c) ∨ (0 ≤ findW c w 0 ∧ findW c w 0 < w.length ∧ (rd_T160 w (findW c w 0)).f0 = c) := by
  rcases findW_cases c w 0 with h | ⟨p, a, t, e, ha, hp, hf⟩
  · exact .inl h
  · refine .inr ?_
    rw [hf]
    subst e
    have : rd_T160 (p ++ a :: t) (0 + (p.length : Int)) = a := by
      rw [Int.zero_add]
      exact getD_at_mid _ p a t
    rw [this]
    exact ⟨by omega, by simp; omega, ha⟩
theorem wcue_ev (l : List S200) (hl : l.length ≤ 1000000) (n : Int) (w : List S160) (hn : w.length ≤ 1000000) (c : Int) : Ev (fun k => spec_l13Cue.f k l n w c) (if tt (PWires l n w) = true then (if 0 ≤ c ∧ c ≤ n - 1 then 0 else 2) else 1) := by
  have hs := wcode_ev l hl n w hn 0 c
  unfold spec_l13Cue.f
  by_cases h : PWires l n w
  · have h1 := h.2.1
    have h2 := h.1.1
    rw [tt_pos h, if_pos rfl] at hs ⊢
    by_cases g : 0 ≤ c ∧ c ≤ max 0 (n - 1)
    · rw [if_pos (⟨⟨Int.le_refl _, by omega⟩, g⟩ : (0 ≤ (0 : Int) ∧ 0 ≤ (l.length : Int) - 1) ∧ 0 ≤ c ∧ c ≤ max 0 (n - 1))] at hs
      refine Ev.bind hs ?_
      by_cases g2 : n = 0
      · rw [if_neg (show ¬ (0 ≤ c ∧ c ≤ n - 1) by omega)]
        simp only [if_true, if_pos g2]
        exact Ev.now _
      · rw [if_pos (show 0 ≤ c ∧ c ≤ n - 1 by omega)]
        simp only [if_true, if_neg g2]
        exact Ev.now _
    · rw [if_neg (fun x => g x.2)] at hs
      rw [if_neg (show ¬ (0 ≤ c ∧ c ≤ n - 1) by omega)]
      refine Ev.bind hs ?_
      simp only [if_neg (show ¬ (2 : Int) = 0 by decide)]
      exact Ev.now _
  · rw [tt_neg h, if_neg (by decide)] at hs ⊢
    refine Ev.bind hs ?_
    simp only [if_neg (show ¬ (1 : Int) = 0 by decide)]
    exact Ev.now _
/-- The two searches for a pin's wire tell the same. -/
theorem cueat_eq {l : List S200} {n : Int} {w : List S160} (h : PWires l n w) {m p z y : Int}
    (hz : (z = -1 ∧ ∀ j : Int, 0 ≤ j → j < w.length → ¬ MW w m p j) ∨ (0 ≤ z ∧ z < w.length ∧ MW w m p z ∧ ∀ j : Int, 0 ≤ j → j < z → ¬ MW w m p j))
    (hy : (y = -1 ∧ ∀ j : Int, 0 ≤ j → j < w.length → ¬ MW w m p j) ∨ ∃ q : Int, 0 ≤ q ∧ q < w.length ∧ MW w m p q ∧ y = (rd_T160 w q).f0) :
    (z = -1 ∧ y = -1) ∨ (0 ≤ z ∧ z < w.length ∧ y = (rd_T160 w z).f0 ∧ 0 ≤ y) := by
  rcases hz with ⟨rfl, hz⟩ | ⟨z0, z1, zm, hz⟩
  · rcases hy with ⟨e, _⟩ | ⟨q, q0, q1, qm, _⟩
    · exact .inl ⟨rfl, e⟩
    · exact absurd qm (hz q q0 q1)
  · refine .inr ⟨z0, z1, ?_⟩
    rcases hy with ⟨_, hy⟩ | ⟨q, q0, q1, qm, e⟩
    · exact absurd zm (hy z z0 z1)
    · have e2 : q = z := by
        rcases Int.lt_or_le q z with g | g
        · exact absurd qm (hz q q0 g)
        · rcases Int.lt_or_le z q with g2 | g2
          · have := (h.2.2 q q0 q1).2.2.2 z z0 g2
            refine absurd ?_ this
            unfold MW at qm zm ⊢
            exact ⟨by rw [zm.1, qm.1], by rw [zm.2, qm.2]⟩
          · omega
      subst e2
      have := (h.2.2 q q0 q1).1
      exact ⟨e, by omega⟩
/-- The wires with one that leads to another pin. -/
def movW (w : List S160) (i m p : Int) : List S160 :=
  (w.set i.toNat (⟨(rd_T160 w i).f0, m, (rd_T160 w i).f2⟩ : S160)).set i.toNat (⟨(rd_T160 (w.set i.toNat (⟨(rd_T160 w i).f0, m, (rd_T160 w i).f2⟩ : S160)) i).f0, (rd_T160 (w.set i.toNat (⟨(rd_T160 w i).f0, m, (rd_T160 w i).f2⟩ : S160)) i).f1, p⟩ : S160)
theorem movW_length (w : List S160) (i m p : Int) : (movW w i m p).length = w.length := by
  unfold movW
  simp
theorem move_ev (l : List S200) (hl : l.length ≤ 1000000) (n : Int) (w : List S160) (hn : w.length ≤ 1000000) (c m p : Int) : ∃ q : List S160 × Int, Ev (fun k => spec_MoveWire.f k l n w c m p) q ∧ Ev (fun k => impl_MoveWire.f k l n w c m p) q ∧ q.1.length ≤ 2000000 ∧ (q.2 = 0 → PWires l n w ∧ PPin l m p ∧ 0 ≤ c ∧ c ≤ n - 1 ∧ 0 ≤ findW c w 0 ∧ q.1 = movW w (findW c w 0) m p ∧ ∀ j : Int, 0 ≤ j → j < w.length → MW w m p j → j = findW c w 0) := by
  have hs := wcue_ev l hl n w hn c
  have hi := impl_AreWires_ev l hl n w hn
  have hz := findW_at w c
  have es := spec_find w hn c
  have ei := impl_find w hn c
  obtain ⟨z, ez, pz⟩ := spec_l13At_ev w (by omega) m p
  obtain ⟨y, ey, py⟩ := impl_cueAt_ev w (by omega) m p
  have j3 : ∀ d : Int, ∀ i, d ≠ 0 → Ev (fun k => spec_MoveWire.j3 k w m p d i) (([] : List S160), d) := fun d i hd => by
    refine Ev_shift ?_
    simp only [spec_MoveWire.j3, if_neg hd]
    exact Ev.now _
  have j1 : ∀ d : Int, d ≠ 0 → Ev (fun k => spec_MoveWire.j1 k w c m p d) (([] : List S160), d) := fun d hd => by
    refine Ev_shift ?_
    simp only [spec_MoveWire.j1]
    refine Ev.bind es ?_
    simp only [if_neg hd]
    refine Ev_shift ?_
    simp only [spec_MoveWire.j2, Bool.false_eq_true, if_false]
    exact j3 d _ hd
  have i0 : Ev (fun k => impl_MoveWire.j0 k w c m p true) (([] : List S160), (2 : Int)) := by
    refine Ev_shift ?_
    simp only [impl_MoveWire.j0, if_true]
    exact Ev.now _
  by_cases h : PWires l n w
  · have h1 := h.2.1
    have hm := h.1
    rw [tt_pos h] at hi
    rw [tt_pos h, if_pos rfl] at hs
    by_cases g : 0 ≤ c ∧ c ≤ n - 1
    · rw [if_pos g] at hs
      by_cases g2 : PPin l m p
      · have sc : ∀ q, Ev (fun k => spec_MoveWire.j2 k w m p 0 (findW c w 0) (decide (findW c w 0 < 0))) q → Ev (fun k => spec_MoveWire.f k l n w c m p) q := fun q hq => by
          unfold spec_MoveWire.f
          refine Ev.bind hs ?_
          simp only [if_true, spec_pin_eq hm, Option.bind_some, tt_pos g2, Bool.not_true]
          refine Ev_shift ?_
          simp only [spec_MoveWire.j0, Bool.false_eq_true, if_false]
          refine Ev_shift ?_
          simp only [spec_MoveWire.j1]
          refine Ev.bind es ?_
          simp only [if_true]
          exact hq
        have ic : ∀ q, Ev (fun k => impl_MoveWire.j0 k w c m p false) q → Ev (fun k => impl_MoveWire.f k l n w c m p) q := fun q hq => by
          unfold impl_MoveWire.f
          refine Ev.bind hi ?_
          simp only [if_true, w64 (n := n - 1) (by omega), within_eq, Option.bind_some, decide_eq_true g, impl_pin_eq hm, tt_pos g2, Bool.not_true]
          exact hq
        rcases hz with ⟨hf, _⟩ | ⟨f0, f1, f2⟩
        · refine ⟨([], 4), sc _ ?_, ic _ ?_, by simp, fun x => absurd x (by decide)⟩
          · rw [hf]
            refine Ev_shift ?_
            simp only [spec_MoveWire.j2, show decide ((-1 : Int) < 0) = true from rfl, if_true]
            exact j3 4 _ (by decide)
          · refine Ev_shift ?_
            simp only [impl_MoveWire.j0, Bool.false_eq_true, if_false]
            refine Ev.bind ei ?_
            rw [hf]
            simp only [if_pos (show (-1 : Int) < 0 by decide)]
            exact Ev.now _
        · have hzy := cueat_eq h pz py
          have free : (z = -1 ∧ y = -1) ∨ z = findW c w 0 → ∀ j : Int, 0 ≤ j → j < w.length → MW w m p j → j = findW c w 0 := fun hh j j0 j1 hj => by
            rcases pz with ⟨e, pz⟩ | ⟨z0, z1, zm, pz⟩
            · exact absurd hj (pz j j0 j1)
            · rcases hh with ⟨e, _⟩ | hh
              · omega
              · rw [← hh]
                rcases Int.lt_or_le j z with q | q
                · exact absurd hj (pz j j0 q)
                · rcases Int.lt_or_le z j with q2 | q2
                  · have := (h.2.2 j j0 j1).2.2.2 z z0 q2
                    refine absurd ?_ this
                    unfold MW at hj zm ⊢
                    exact ⟨by rw [zm.1, hj.1], by rw [zm.2, hj.2]⟩
                  · omega
          have good : ((z = -1 ∧ y = -1) ∨ z = findW c w 0) → ((z = -1 ∧ y = -1) ∨ (0 ≤ z ∧ y = c ∧ 0 ≤ y)) → ∃ q : List S160 × Int, Ev (fun k => spec_MoveWire.f k l n w c m p) q ∧ Ev (fun k => impl_MoveWire.f k l n w c m p) q ∧ q.1.length ≤ 2000000 ∧ (q.2 = 0 → PWires l n w ∧ PPin l m p ∧ 0 ≤ c ∧ c ≤ n - 1 ∧ 0 ≤ findW c w 0 ∧ q.1 = movW w (findW c w 0) m p ∧ ∀ j : Int, 0 ≤ j → j < w.length → MW w m p j → j = findW c w 0) := fun ha hb => by
            have cm : ∀ (i : Int), i = findW c w 0 → 0 ≤ i ∧ i < (([] : List S160) ++ w).length := fun i e => by rw [e, List.nil_append]; exact ⟨f0, f1⟩
            refine ⟨(movW w (findW c w 0) m p, 0), sc _ ?_, ic _ ?_, by simp only [movW_length]; omega, fun _ => ⟨h, g2, g.1, g.2, f0, rfl, free ha⟩⟩
            · refine Ev_shift ?_
              simp only [spec_MoveWire.j2, decide_eq_false (show ¬ findW c w 0 < 0 by omega), Bool.false_eq_true, if_false]
              refine Ev_shift ?_
              simp only [spec_MoveWire.j3, if_true]
              refine Ev.bind ez ?_
              rcases ha with ⟨e, _⟩ | e
              · rw [e]
                simp only [if_neg (show ¬ (-1 : Int) ≥ 0 by decide), Option.bind_some, List.nil_append, List.length_nil, if_pos (show 0 + w.length < 5864062014805 by omega), if_pos f0, if_pos f1]
                exact Ev.now _
              · rw [e]
                simp only [if_pos (show findW c w 0 ≥ 0 from f0), if_true, Option.bind_some, List.nil_append, List.length_nil, if_pos (show 0 + w.length < 5864062014805 by omega), if_pos f0, if_pos f1]
                exact Ev.now _
            · refine Ev_shift ?_
              simp only [impl_MoveWire.j0, Bool.false_eq_true, if_false]
              refine Ev.bind ei ?_
              simp only [if_neg (show ¬ findW c w 0 < 0 by omega)]
              refine Ev.bind ey ?_
              rcases hb with ⟨_, e⟩ | ⟨_, e, e0⟩
              · rw [e]
                simp only [if_neg (show ¬ (-1 : Int) ≥ 0 by decide), Option.bind_some, List.nil_append, List.length_nil, if_pos (show 0 + w.length < 5864062014805 by omega), if_pos f0, if_pos f1]
                exact Ev.now _
              · simp only [if_pos (show y ≥ 0 from e0), if_pos e, Option.bind_some, List.nil_append, List.length_nil, if_pos (show 0 + w.length < 5864062014805 by omega), if_pos f0, if_pos f1]
                exact Ev.now _
          rcases hzy with ⟨a, b⟩ | ⟨z0, z1, yz, y0⟩
          · exact good (.inl ⟨a, b⟩) (.inl ⟨a, b⟩)
          · by_cases e : z = findW c w 0
            · refine good (.inr e) (.inr ⟨z0, ?_, y0⟩)
              rw [yz, e, f2]
            · have e2 : ¬ y = c := fun x => e (winj h z0 z1 f0 f1 (by rw [← yz, f2, x]))
              refine ⟨([], 5), sc _ ?_, ic _ ?_, by simp, fun x => absurd x (by decide)⟩
              · refine Ev_shift ?_
                simp only [spec_MoveWire.j2, decide_eq_false (show ¬ findW c w 0 < 0 by omega), Bool.false_eq_true, if_false]
                refine Ev_shift ?_
                simp only [spec_MoveWire.j3, if_true]
                refine Ev.bind ez ?_
                simp only [if_pos (show z ≥ 0 from z0), if_neg e]
                exact Ev.now _
              · refine Ev_shift ?_
                simp only [impl_MoveWire.j0, Bool.false_eq_true, if_false]
                refine Ev.bind ei ?_
                simp only [if_neg (show ¬ findW c w 0 < 0 by omega)]
                refine Ev.bind ey ?_
                simp only [if_pos (show y ≥ 0 from y0), if_neg e2]
                exact Ev.now _
      · refine ⟨([], 2), ?_, ?_, by simp, fun x => absurd x (by decide)⟩
        · unfold spec_MoveWire.f
          refine Ev.bind hs ?_
          simp only [if_true, spec_pin_eq hm, Option.bind_some, tt_neg g2, Bool.not_false]
          refine Ev_shift ?_
          simp only [spec_MoveWire.j0, if_true]
          exact j1 2 (by decide)
        · unfold impl_MoveWire.f
          refine Ev.bind hi ?_
          simp only [if_true, w64 (n := n - 1) (by omega), within_eq, Option.bind_some, decide_eq_true g, impl_pin_eq hm, tt_neg g2, Bool.not_false]
          exact i0
    · rw [if_neg g] at hs
      refine ⟨([], 2), ?_, ?_, by simp, fun x => absurd x (by decide)⟩
      · unfold spec_MoveWire.f
        refine Ev.bind hs ?_
        simp only [if_neg (show ¬ (2 : Int) = 0 by decide)]
        refine Ev_shift ?_
        simp only [spec_MoveWire.j0, Bool.false_eq_true, if_false]
        exact j1 2 (by decide)
      · unfold impl_MoveWire.f
        refine Ev.bind hi ?_
        simp only [if_true, w64 (n := n - 1) (by omega), within_eq, Option.bind_some, decide_eq_false g, Bool.false_eq_true, if_false]
        exact i0
  · rw [tt_neg h] at hi
    rw [tt_neg h, if_neg (by decide)] at hs
    refine ⟨([], 1), ?_, ?_, by simp, fun x => absurd x (by decide)⟩
    · unfold spec_MoveWire.f
      refine Ev.bind hs ?_
      simp only [if_neg (show ¬ (1 : Int) = 0 by decide)]
      refine Ev_shift ?_
      simp only [spec_MoveWire.j0, Bool.false_eq_true, if_false]
      exact j1 1 (by decide)
    · unfold impl_MoveWire.f
      refine Ev.bind hi ?_
      simp only [Bool.false_eq_true, if_false]
      exact Ev.now _
/-- The cues whose modules are told true. -/
def cbF (p : Int → Bool) : List S160 → List Int
  | [] => []
  | a :: s => if p a.f1 = true then a.f0 :: cbF p s else cbF p s
theorem cbF_congr {p q : Int → Bool} : ∀ s : List S160, (∀ a ∈ s, p a.f1 = q a.f1) → cbF p s = cbF q s
  | [], _ => rfl
  | a :: s, h => by
    unfold cbF
    rw [h a (by simp), cbF_congr s (fun b hb => h b (by simp [hb]))]
theorem cbF_length (p : Int → Bool) : ∀ s : List S160, (cbF p s).length ≤ s.length
  | [] => Nat.le_refl _
  | a :: s => by
    unfold cbF
    have := cbF_length p s
    split
    · simp only [List.length_cons]
      omega
    · simp only [List.length_cons]
      omega
theorem spec_cb_l0 (w : List S160) (hw : w.length ≤ 1000000) (b : List Int) (hb : b.length ≤ 1000) : ∀ (s : List S160) (i : Int) (out : List Int), 0 ≤ i → w.drop i.toNat = s → (out.length : Int) ≤ i → Ev (fun k => spec_CuesBelow.l0 k w b out i) (out ++ cbF (fun m => decide (m ∈ b)) s, 0)
  | [], i, out, h0, h, ho => by
    refine Ev_shift ?_
    simp only [spec_CuesBelow.l0, if_neg (drop_nil h0 h), cbF, List.append_nil]
    exact Ev.now _
  | a :: s, i, out, h0, h, ho => by
    refine Ev_shift ?_
    obtain ⟨h1, h2, h3⟩ := drop_cons z160 h0 h
    have h2' : rd_T160 w i = a := h2
    simp only [spec_CuesBelow.l0, if_pos h1, if_pos h0, h2']
    refine Ev.bind (has_ev b (by omega) a.f1) ?_
    unfold cbF
    by_cases g : decide (a.f1 ∈ b) = true
    · simp only [if_pos g, if_pos (show out.length < 17592186044416 by omega), w64 (n := i + 1) (by omega)]
      refine Ev_eq (spec_cb_l0 w hw b hb s (i + 1) (out ++ [a.f0]) (by omega) h3 (by simp; omega)) ?_
      simp
    · simp only [if_neg g, w64 (n := i + 1) (by omega)]
      exact spec_cb_l0 w hw b hb s (i + 1) out (by omega) h3 (by omega)
theorem impl_cb_l0 (w : List S160) (hw : w.length ≤ 1000000) (y : List Bool) (p : Int → Bool) (hy : ∀ a ∈ w, (0 ≤ a.f1 ∧ a.f1 < y.length) ∧ rdOf false y a.f1 = p a.f1) : ∀ (s : List S160) (i : Int) (out : List Int), 0 ≤ i → w.drop i.toNat = s → (out.length : Int) ≤ i → Ev (fun k => impl_CuesBelow.l0 k y out w w.length i) (out ++ cbF p s, 0)
  | [], i, out, h0, h, ho => by
    refine Ev_shift ?_
    simp only [impl_CuesBelow.l0, if_neg (drop_nil h0 h), cbF, List.append_nil]
    exact Ev.now _
  | a :: s, i, out, h0, h, ho => by
    refine Ev_shift ?_
    obtain ⟨h1, h2, h3⟩ := drop_cons z160 h0 h
    have h2' : rd_T160 w i = a := h2
    have ha := hy a (List.mem_of_mem_drop (i := i.toNat) (by rw [h]; simp))
    simp only [impl_CuesBelow.l0, if_pos h1, if_pos h0, h2', if_pos ha.1.1, if_pos ha.1.2, ha.2]
    unfold cbF
    by_cases g : p a.f1 = true
    · simp only [if_pos g, if_pos (show out.length < 17592186044416 by omega), w64 (n := i + 1) (by omega)]
      refine Ev_eq (impl_cb_l0 w hw y p hy s (i + 1) (out ++ [a.f0]) (by omega) h3 (by simp; omega)) ?_
      simp
    · simp only [if_neg g, w64 (n := i + 1) (by omega)]
      exact impl_cb_l0 w hw y p hy s (i + 1) out (by omega) h3 (by omega)
theorem wpins {l : List S200} {n : Int} {w : List S160} (h : PWires l n w) : ∀ x ∈ w, PPin l x.f1 x.f2 := by
  intro x hx
  obtain ⟨i, hi, rfl⟩ := List.mem_iff_getElem.1 hx
  have := (h.2.2 (i : Int) (by omega) (by omega)).2.1
  have e : rd_T160 w (i : Int) = w[i] := by
    show w.getD _ _ = _
    rw [Int.toNat_natCast, List.getD_eq_getElem?_getD, List.getElem?_eq_getElem hi]
    rfl
  rw [e] at this
  exact this
theorem cues_ev (l : List S200) (hl : l.length ≤ 1000000) (n : Int) (w : List S160) (hn : w.length ≤ 1000000) (m : Int) : ∃ q : List Int × Int, Ev (fun k => spec_CuesBelow.f k l n w m) q ∧ Ev (fun k => impl_CuesBelow.f k l n w m) q ∧ q.1.length ≤ 2000000 ∧ (q.2 = 0 → PWires l n w ∧ q.1 = cbF (belowP l m) w) := by
  have hs := wcode_ev l hl n w hn m 0
  have hi := impl_AreWires_ev l hl n w hn
  by_cases h : PWires l n w
  · have hm := h.1
    have hl1 := hm.1
    have hl2 := hm.2.1
    rw [tt_pos h] at hi
    rw [tt_pos h, if_pos rfl] at hs
    by_cases c : 0 ≤ m ∧ m ≤ (l.length : Int) - 1
    · rw [if_pos ⟨c, Int.le_refl _, by omega⟩] at hs
      obtain ⟨y, ya, yb, yc⟩ := impl_below hm c.1 (show m < l.length by omega)
      have hlen := idxF_length (belowP l m) l.length 0
      have hcl := cbF_length (belowP l m) w
      refine ⟨(cbF (belowP l m) w, 0), ?_, ?_, by show List.length (cbF _ _) ≤ _; omega, fun _ => ⟨h, rfl⟩⟩
      · unfold spec_CuesBelow.f
        refine Ev.bind hs ?_
        simp only [if_true]
        refine Ev.bind (spec_below hm m) ?_
        refine Ev_eq (spec_cb_l0 w hn _ (by omega) w 0 [] (by omega) rfl (by simp)) ?_
        rw [List.nil_append, cbF_congr w (fun a ha => ?_)]
        have hp := (wpins h a ha).1
        show decide (a.f1 ∈ idxF (belowP l m) l.length 0) = belowP l m a.f1
        by_cases g : belowP l m a.f1 = true
        · rw [g]
          exact decide_eq_true ((idxF_mem _ _ _ _).2 ⟨hp.1, by omega, g⟩)
        · have g' : belowP l m a.f1 = false := by simpa using g
          rw [g']
          exact decide_eq_false (fun x => g ((idxF_mem _ _ _ _).1 x).2.2)
      · unfold impl_CuesBelow.f
        refine Ev.bind hi ?_
        simp only [if_true, isIndex_eq (show 0 ≤ (l.length : Int) ∧ (l.length : Int) ≤ 140737488351232 by omega), Option.bind_some, decide_eq_true (show 0 ≤ m ∧ m < (l.length : Int) by omega)]
        refine Ev.bind yc ?_
        exact impl_cb_l0 w hn y (belowP l m) (fun a ha => by
          have hp := (wpins h a ha).1
          exact ⟨⟨hp.1, by omega⟩, yb a.f1 hp.1 (by omega)⟩) w 0 [] (by omega) rfl (by simp)
    · rw [if_neg (fun g => c g.1)] at hs
      refine ⟨([], 2), ?_, ?_, by simp, fun x => absurd x (by decide)⟩
      · unfold spec_CuesBelow.f
        refine Ev.bind hs ?_
        simp only [if_neg (show ¬ (2 : Int) = 0 by decide)]
        exact Ev.now _
      · unfold impl_CuesBelow.f
        refine Ev.bind hi ?_
        simp only [if_true, isIndex_eq (show 0 ≤ (l.length : Int) ∧ (l.length : Int) ≤ 140737488351232 by omega), Option.bind_some, decide_eq_false (show ¬ (0 ≤ m ∧ m < (l.length : Int)) by omega), Bool.false_eq_true, if_false]
        exact Ev.now _
  · rw [tt_neg h] at hi
    rw [tt_neg h, if_neg (by decide)] at hs
    refine ⟨([], 1), ?_, ?_, by simp, fun x => absurd x (by decide)⟩
    · unfold spec_CuesBelow.f
      refine Ev.bind hs ?_
      simp only [if_neg (show ¬ (1 : Int) = 0 by decide)]
      exact Ev.now _
    · unfold impl_CuesBelow.f
      refine Ev.bind hi ?_
      simp only [Bool.false_eq_true, if_false]
      exact Ev.now _
/-- The wires with one for a loose cue, at the first free pin of d modules from m on. -/
noncomputable def joinF (l : List S200) (w : List S160) (c : Int) : Nat → Int → List S160 × Bool
  | 0, _ => ([], false)
  | d + 1, m => if ((freeF l w m).length : Int) = 0 then joinF l w c d (m + 1) else (insW (⟨c, m, rd (freeF l w m) 0⟩ : S160) w, true)
theorem joinF_length (l : List S200) (w : List S160) (c : Int) : ∀ (d : Nat) (m : Int), (joinF l w c d m).1.length ≤ w.length + 1
  | 0, m => by simp [joinF]
  | d + 1, m => by
    unfold joinF
    split
    · exact joinF_length l w c d (m + 1)
    · rw [insW_length]
      exact Nat.le_refl _
theorem joinF_mem (l : List S200) (w : List S160) (c : Int) : ∀ (d : Nat) (m : Int), (joinF l w c d m).2 = true → ∃ x : S160, x.f0 = c ∧ m ≤ x.f1 ∧ x.f1 < m + d ∧ ((freeF l w x.f1).length : Int) ≠ 0 ∧ x.f2 = rd (freeF l w x.f1) 0 ∧ (joinF l w c d m).1 = insW x w
  | 0, m, h => by cases h
  | d + 1, m, h => by
    unfold joinF at h ⊢
    by_cases g : ((freeF l w m).length : Int) = 0
    · rw [if_pos g] at h ⊢
      obtain ⟨x, h1, h2, h3, h4⟩ := joinF_mem l w c d (m + 1) h
      exact ⟨x, h1, by omega, by omega, h4⟩
    · rw [if_neg g]
      exact ⟨_, rfl, Int.le_refl _, by show m < _; omega, g, rfl, rfl⟩
theorem spec_with_l0 (x : S160) : ∀ (s p : List S160), p.length + s.length ≤ 2000000 → Ev (fun k => spec_l13With.l0 k (p ++ s) (p.length : Int) x.f0 x.f1 x.f2) (p ++ insW x s)
  | [], p, h => by
    refine Ev_shift ?_
    simp only [List.append_nil, List.length_nil, Nat.add_zero] at h ⊢
    simp only [spec_l13With.l0, if_neg (show ¬ (p.length : Int) < p.length by omega), if_pos (show 0 ≤ (p.length : Int) by omega), if_pos (show (p.length : Int) ≤ p.length by omega), Option.bind_some, List.nil_append, List.length_nil, Int.toNat_natCast, List.take_length, List.drop_length, Nat.zero_add, if_pos (show p.length < 5864062014805 by omega), List.length_singleton, if_pos (show p.length + 1 < 5864062014805 by omega), List.length_append, Nat.add_zero, List.append_nil]
    exact Ev.now _
  | a :: s, p, h => by
    refine Ev_shift ?_
    have hg : rd_T160 (p ++ a :: s) (p.length : Int) = a := getD_at_mid _ p a s
    have hlen : (p ++ a :: s).length = p.length + (s.length + 1) := by simp
    simp only [List.length_cons] at h
    unfold insW
    by_cases g : a.f0 < x.f0
    · simp only [spec_l13With.l0, if_pos (show (p.length : Int) < ((p ++ a :: s).length : Int) by omega), if_pos (show 0 ≤ (p.length : Int) by omega), hg, if_pos g, w64 (n := (p.length : Int) + 1) (by omega)]
      have := spec_with_l0 x s (p ++ [a]) (by simp; omega)
      simpa using this
    · have ht : (p ++ a :: s).take p.length = p := by simp
      have hd : (p ++ a :: s).drop p.length = a :: s := by simp
      simp only [spec_l13With.l0, if_pos (show (p.length : Int) < ((p ++ a :: s).length : Int) by omega), if_pos (show 0 ≤ (p.length : Int) by omega), hg, if_neg g, if_pos (show (p.length : Int) ≤ ((p ++ a :: s).length : Int) by omega), if_pos (show (p.length : Int) < ((p.length + (s.length + 1) : Nat) : Int) by omega), if_pos (show (p.length : Int) ≤ ((p.length + (s.length + 1) : Nat) : Int) by omega), Option.bind_some, List.nil_append, List.length_nil, Int.toNat_natCast, ht, hd, Nat.zero_add, if_pos (show p.length < 5864062014805 by omega), List.length_singleton, if_pos (show p.length + 1 < 5864062014805 by omega), List.length_append, List.length_cons, if_pos (show p.length + 1 + (s.length + 1) < 5864062014805 by omega)]
      first | exact Ev.now _ | exact Ev_some (by simp)
theorem spec_with (w : List S160) (hw : w.length ≤ 2000000) (x : S160) : Ev (fun k => spec_l13With.f k w x.f0 x.f1 x.f2) (insW x w) := by
  unfold spec_l13With.f
  exact spec_with_l0 x w [] (by simp; omega)
theorem spec_join_l0 {l : List S200} (h : PMods l) (w : List S160) (hw : w.length ≤ 2000000) (c : Int) : ∀ (d : Nat) (m : Int), 0 ≤ m → m + d = l.length → Ev (fun k => spec_l13Join.l0 k l w c m) (joinF l w c d m)
  | 0, m, h0, hd => by
    refine Ev_shift ?_
    simp only [spec_l13Join.l0, if_neg (show ¬ m < (l.length : Int) by omega), joinF]
    exact Ev.now _
  | d + 1, m, h0, hd => by
    have hl := h.2.1
    refine Ev_shift ?_
    simp only [spec_l13Join.l0, if_pos (show m < (l.length : Int) by omega)]
    refine Ev.bind (spec_free h w hw h0 (by omega)) ?_
    unfold joinF
    by_cases g : ((freeF l w m).length : Int) = 0
    · simp only [if_pos g, if_neg (show ¬ ((freeF l w m).length : Int) > 0 by omega), w64 (n := m + 1) (by omega)]
      exact spec_join_l0 h w hw c d (m + 1) (by omega) (by omega)
    · simp only [if_neg g, if_pos (show ((freeF l w m).length : Int) > 0 by omega), if_pos (show 0 < ((freeF l w m).length : Int) by omega)]
      exact Ev.bind (spec_with w hw (⟨c, m, rd (freeF l w m) 0⟩ : S160)) (Ev.now _)
theorem spec_join {l : List S200} (h : PMods l) (w : List S160) (hw : w.length ≤ 2000000) (c : Int) : Ev (fun k => spec_l13Join.f k l w c) (joinF l w c l.length 0) := by
  unfold spec_l13Join.f
  exact spec_join_l0 h w hw c l.length 0 (by omega) (by omega)
theorem put_l1 (x : S160) : ∀ (n : Nat) (p s : List S160), p.length = n → p.length + s.length ≤ 2000000 → AscW p → (∀ b ∈ p, ¬ b.f0 = x.f0) → Ev (fun k => impl_putWire.l1 k (p ++ x :: s) (p.length : Int)) (insW x p ++ s, true)
  | 0, p, s, hn, hl, ha, hx => by
    have e : p = [] := List.length_eq_zero_iff.1 hn
    subst e
    refine Ev_shift ?_
    simp only [impl_putWire.l1, List.length_nil, if_neg (show ¬ ((0 : Nat) : Int) > 0 by decide), insW]
    exact Ev.now _
  | n + 1, p, s, hn, hl, ha, hx => by
    obtain ⟨p', a, rfl⟩ : ∃ p' a, p = p' ++ [a] := by
      have hne : p ≠ [] := by
        intro e
        rw [e] at hn
        simp at hn
      exact ⟨p.dropLast, p.getLast hne, (List.dropLast_concat_getLast hne).symm⟩
    simp only [List.length_append, List.length_singleton] at hn hl ⊢
    have ha' : AscW p' := (List.pairwise_append.1 ha).1
    have hlt : ∀ b ∈ p', b.f0 < a.f0 := fun b hb => (List.pairwise_append.1 ha).2.2 b hb a (by simp)
    have e1 : (p' ++ [a]) ++ x :: s = p' ++ a :: (x :: s) := by simp
    have r1 : rd_T160 (p' ++ a :: (x :: s)) (p'.length : Int) = a := getD_at_mid _ p' a (x :: s)
    have r2 : rd_T160 (p' ++ a :: (x :: s)) ((p'.length + 1 : Nat) : Int) = x := by
      rw [← e1, show ((p'.length + 1 : Nat) : Int) = (((p' ++ [a]).length : Nat) : Int) by simp]
      exact getD_at_mid _ (p' ++ [a]) x s
    have hlen : ((p' ++ a :: (x :: s)).length : Int) = (p'.length : Int) + 2 + s.length := by simp; omega
    rw [e1]
    refine Ev_shift ?_
    have ek : ((p'.length + 1 : Nat) : Int) - 1 = (p'.length : Int) := by omega
    simp only [impl_putWire.l1, if_pos (show ((p'.length + 1 : Nat) : Int) > 0 by omega), ek, w64 (n := (p'.length : Int)) (by omega), if_pos (show 0 ≤ (p'.length : Int) by omega), if_pos (show (p'.length : Int) < ((p' ++ a :: (x :: s)).length : Int) by omega), if_pos (show 0 ≤ ((p'.length + 1 : Nat) : Int) by omega), if_pos (show ((p'.length + 1 : Nat) : Int) < ((p' ++ a :: (x :: s)).length : Int) by omega), r1, r2]
    have hax := hx a (by simp)
    by_cases g : a.f0 > x.f0
    · simp only [if_pos g]
      rw [insW_last x a (by omega) p']
      have s1 : (p' ++ a :: (x :: s)).set ((p'.length : Int)).toNat (⟨x.f0, x.f1, x.f2⟩ : S160) = (p' ++ [x]) ++ x :: s := by
        rw [set_at_mid]
        simp
      have s2 : ((p' ++ [x]) ++ x :: s).set (((p'.length + 1 : Nat) : Int)).toNat (⟨a.f0, a.f1, a.f2⟩ : S160) = p' ++ x :: (a :: s) := by
        rw [show ((p'.length + 1 : Nat) : Int) = (((p' ++ [x]).length : Nat) : Int) by simp, set_at_mid]
        simp
      rw [s1, s2]
      have := put_l1 x n p' (a :: s) (by omega) (by simp; omega) ha' (fun b hb => hx b (by simp [hb]))
      simpa using this
    · simp only [if_neg g]
      rw [insW_all x (p' ++ [a]) (fun b hb => by
        rcases List.mem_append.1 hb with hb | hb
        · have := hlt b hb
          omega
        · rw [List.mem_singleton.1 hb]
          omega)]
      exact Ev_some (by simp)
theorem put_l0 {l : List S200} (h : PMods l) (w : List S160) (hw : w.length ≤ 2000000) (hc : ∀ x ∈ w, 0 ≤ x.f0) (ha : AscW w) (c : Int) (hx : ∀ b ∈ w, ¬ b.f0 = c) : ∀ (d : Nat) (m : Int), 0 ≤ m → m + d = l.length → Ev (fun k => impl_putWire.l0 k l w c l.length m) (joinF l w c d m)
  | 0, m, h0, hd => by
    refine Ev_shift ?_
    simp only [impl_putWire.l0, if_neg (show ¬ m < (l.length : Int) by omega), joinF]
    exact Ev.now _
  | d + 1, m, h0, hd => by
    have hl := h.2.1
    refine Ev_shift ?_
    simp only [impl_putWire.l0, if_pos (show m < (l.length : Int) by omega)]
    refine Ev.bind (impl_free h w hw hc h0 (by omega)) ?_
    unfold joinF
    by_cases g : ((freeF l w m).length : Int) = 0
    · simp only [if_pos g, w64 (n := m + 1) (by omega)]
      exact put_l0 h w hw hc ha c hx d (m + 1) (by omega) (by omega)
    · simp only [if_neg g, Option.bind_some, List.nil_append, List.length_nil, Nat.zero_add, if_pos (show w.length < 5864062014805 by omega), if_pos (show 0 < ((freeF l w m).length : Int) by omega), List.length_singleton, if_pos (show w.length + 1 < 5864062014805 by omega), List.length_append]
      have e : wrap64 (((w.length + 1 : Nat) : Int) - 1) = (w.length : Int) := by rw [w64 (by omega)]; omega
      rw [e]
      have := put_l1 (⟨c, m, rd (freeF l w m) 0⟩ : S160) w.length w [] rfl (by simp; omega) ha hx
      simpa using this
theorem impl_put {l : List S200} (h : PMods l) (w : List S160) (hw : w.length ≤ 2000000) (hc : ∀ x ∈ w, 0 ≤ x.f0) (ha : AscW w) (c : Int) (hx : ∀ b ∈ w, ¬ b.f0 = c) : Ev (fun k => impl_putWire.f k l w c) (joinF l w c l.length 0) := by
  unfold impl_putWire.f
  exact put_l0 h w hw hc ha c hx l.length 0 (by omega) (by omega)
theorem findW_neg {w : List S160} {c : Int} (h : findW c w 0 < 0) : ∀ b ∈ w, ¬ b.f0 = c := by
  rcases findW_cases c w 0 with ⟨_, hn⟩ | ⟨p, a, t, e, ha, hp, hf⟩
  · exact hn
  · omega
/-- The wires with one for each of some cues. -/
noncomputable def allF (l : List S200) : List Int → List S160 → List S160 × Int
  | [], w => (w, 0)
  | c :: s, w => if (joinF l w c l.length 0).2 = true then allF l s (joinF l w c l.length 0).1 else ([], 4)
theorem spec_all_l0 {l : List S200} (h : PMods l) (cs : List Int) (hcs : cs.length ≤ 1000) : ∀ (s : List Int) (i : Int) (w : List S160), 0 ≤ i → cs.drop i.toNat = s → w.length + s.length ≤ 2000000 → Ev (fun k => spec_WireAll.l0 k l w cs i) (allF l s w)
  | [], i, w, h0, hs, hw => by
    refine Ev_shift ?_
    simp only [spec_WireAll.l0, if_neg (drop_nil h0 hs), allF]
    exact Ev.now _
  | c :: s, i, w, h0, hs, hw => by
    refine Ev_shift ?_
    obtain ⟨h1, h2, h3⟩ := drop_cons 0 h0 hs
    have h2' : rd cs i = c := h2
    simp only [List.length_cons] at hw
    have hlen := joinF_length l w c l.length 0
    simp only [spec_WireAll.l0, if_pos h1, if_pos h0, h2']
    refine Ev.bind (spec_join h w (by omega) c) ?_
    unfold allF
    by_cases b : (joinF l w c l.length 0).2 = true
    · simp only [if_pos b, w64 (n := i + 1) (by omega)]
      exact spec_all_l0 h cs hcs s (i + 1) _ (by omega) h3 (by omega)
    · simp only [if_neg b]
      exact Ev.now _
theorem impl_all_l0 {l : List S200} (h : PMods l) (cs : List Int) (hcs : cs.length ≤ 1000) : ∀ (s : List Int) (i : Int) (w : List S160), 0 ≤ i → cs.drop i.toNat = s → w.length + s.length ≤ 2000000 → (∀ x ∈ w, 0 ≤ x.f0) → AscW w → s.Nodup → (∀ c ∈ s, 0 ≤ c ∧ ∀ b ∈ w, ¬ b.f0 = c) → Ev (fun k => impl_WireAll.l0 k l w cs cs.length i) (allF l s w)
  | [], i, w, h0, hs, hw, w0, ha, hn, hx => by
    refine Ev_shift ?_
    simp only [impl_WireAll.l0, if_neg (drop_nil h0 hs), allF]
    exact Ev.now _
  | c :: s, i, w, h0, hs, hw, w0, ha, hn, hx => by
    refine Ev_shift ?_
    obtain ⟨h1, h2, h3⟩ := drop_cons 0 h0 hs
    have h2' : rd cs i = c := h2
    simp only [List.length_cons] at hw
    rw [List.nodup_cons] at hn
    have hlen := joinF_length l w c l.length 0
    have hxc := hx c (by simp)
    simp only [impl_WireAll.l0, if_pos h1, if_pos h0, h2']
    refine Ev.bind (impl_put h w (by omega) w0 ha c hxc.2) ?_
    unfold allF
    by_cases b : (joinF l w c l.length 0).2 = true
    · simp only [if_pos b, w64 (n := i + 1) (by omega)]
      obtain ⟨x, x0, _, _, _, _, e⟩ := joinF_mem l w c l.length 0 b
      refine impl_all_l0 h cs hcs s (i + 1) _ (by omega) h3 (by omega) ?_ ?_ hn.2 ?_
      · rw [e]
        intro y hy
        rcases (insW_mem x w y).1 hy with rfl | hy
        · omega
        · exact w0 y hy
      · rw [e]
        exact AscW_ins x w ha (fun b hb => by rw [x0]; exact hxc.2 b hb)
      · intro d hd
        refine ⟨(hx d (by simp [hd])).1, ?_⟩
        rw [e]
        intro y hy
        rcases (insW_mem x w y).1 hy with rfl | hy
        · intro e2
          rw [x0] at e2
          rw [e2] at hn
          exact hn.1 hd
        · exact (hx d (by simp [hd])).2 y hy
    · simp only [if_neg b]
      exact Ev.now _
theorem idxF_nodup2 (p : Int → Bool) : ∀ (d : Nat) (i : Int), (idxF p d i).Nodup
  | 0, i => List.nodup_nil
  | d + 1, i => by
    unfold idxF
    split
    · rw [List.nodup_cons]
      refine ⟨fun g => ?_, idxF_nodup2 p d (i + 1)⟩
      have := (idxF_mem p d (i + 1) i).1 g
      omega
    · exact idxF_nodup2 p d (i + 1)
theorem allF_length (l : List S200) : ∀ (s : List Int) (w : List S160), (allF l s w).1.length ≤ w.length + s.length
  | [], w => by simp [allF]
  | c :: s, w => by
    unfold allF
    have h1 := joinF_length l w c l.length 0
    split
    · have := allF_length l s (joinF l w c l.length 0).1
      simp only [List.length_cons]
      omega
    · simp
theorem wireall_ev (l : List S200) (hl : l.length ≤ 1000000) (n : Int) (w : List S160) (hn : w.length ≤ 1000000) : ∃ q : List S160 × Int, Ev (fun k => spec_WireAll.f k l n w) q ∧ Ev (fun k => impl_WireAll.f k l n w) q ∧ q.1.length ≤ 2000000 ∧ (q.2 = 0 → PWires l n w ∧ allF l (looseF n w) w = q) := by
  have hs := wcode_ev l hl n w (by omega) 0 0
  have hi := impl_AreWires_ev l hl n w (by omega)
  by_cases h : PWires l n w
  · have h1 := h.2.1
    have hm := h.1
    have hl1 := hm.1
    rw [tt_pos h] at hi
    rw [tt_pos h, if_pos rfl, if_pos ⟨⟨Int.le_refl _, by omega⟩, Int.le_refl _, by omega⟩] at hs
    have hlen := idxF_length (fun c => decide (findW c w 0 < 0)) n.toNat 0
    have hll : (looseF n w).length ≤ 20 := by show List.length (idxF _ _ _) ≤ _; omega
    have hal := allF_length l (looseF n w) w
    refine ⟨allF l (looseF n w) w, ?_, ?_, by omega, fun _ => ⟨h, rfl⟩⟩
    · unfold spec_WireAll.f
      refine Ev.bind hs ?_
      simp only [if_true, Option.bind_some, List.nil_append, List.length_nil, if_pos (show 0 + w.length < 5864062014805 by omega)]
      refine Ev.bind (spec_loose w (by omega) h1) ?_
      exact spec_all_l0 hm (looseF n w) (by omega) (looseF n w) 0 w (by omega) rfl (by omega)
    · unfold impl_WireAll.f
      refine Ev.bind hi ?_
      simp only [if_true, Option.bind_some, List.nil_append, List.length_nil, if_pos (show 0 + w.length < 5864062014805 by omega)]
      refine Ev.bind (impl_loose w (by omega) h1) ?_
      refine impl_all_l0 hm (looseF n w) (by omega) (looseF n w) 0 w (by omega) rfl (by omega) (fun x hx => (wcues h x hx).1) (AscW_of h) (idxF_nodup2 _ _ _) (fun c hc => ?_)
      have := (idxF_mem _ _ _ _).1 hc
      exact ⟨this.1, findW_neg (of_decide_eq_true this.2.2)⟩
  · rw [tt_neg h] at hi
    rw [tt_neg h, if_neg (by decide)] at hs
    refine ⟨([], 1), ?_, ?_, by simp, fun x => absurd x (by decide)⟩
    · unfold spec_WireAll.f
      refine Ev.bind hs ?_
      simp only [if_neg (show ¬ (1 : Int) = 0 by decide)]
      exact Ev.now _
    · unfold impl_WireAll.f
      refine Ev.bind hi ?_
      simp only [Bool.false_eq_true, if_false]
      exact Ev.now _
theorem good12b_l0 (c : List Int) : ∀ (d : Nat) (out : List S200) (a s : Int), Src c a s → 1 ≤ out.length → out.length + d ≤ 12 → (∀ x ∈ out, x.f1 ≤ 1000) → ∃ l a' s', Ev (fun k => spec_l12Good.l0 k out d c a s) (l, a', s') ∧ Src c a' s' ∧ 1 ≤ l.length ∧ l.length ≤ 12 ∧ ∀ x ∈ l, x.f1 ≤ 1000
  | 0, out, a, s, h, h1, hd, hx => by
    refine ⟨out, a, s, Ev_shift ?_, h, h1, by omega, hx⟩
    simp only [spec_l12Good.l0, if_neg (show ¬ ((0 : Nat) : Int) > 0 by decide)]
    exact Ev.now _
  | d + 1, out, a, s, h, h1, hd, hx => by
    obtain ⟨v1, a1, s1, e1, g1, _, _⟩ := next_some h (out.length : Int) (by omega)
    obtain ⟨v2, a2, s2, e2, g2, u0, u1⟩ := next_some g1 6 (by omega)
    obtain ⟨l, a', s', e, hs, hl⟩ := good12b_l0 c d (out ++ [(⟨v1, v2⟩ : S200)]) a2 s2 g2 (by simp) (by simp; omega) (fun x hm => by
      rcases List.mem_append.1 hm with hm | hm
      · exact hx x hm
      · rw [List.mem_singleton.1 hm]
        show v2 ≤ 1000
        omega)
    refine ⟨l, a', s', Ev_shift ?_, hs, hl⟩
    simp only [spec_l12Good.l0, if_pos (show ((d + 1 : Nat) : Int) > 0 by omega), e1, e2, Option.bind_some, if_pos (show out.length < 8796093022208 by omega), show ((d + 1 : Nat) : Int) - 1 = (d : Int) by omega, w64 (n := (d : Int)) (by omega)]
    exact e
theorem good12b_ev {c : List Int} {a s : Int} (h : Src c a s) : ∃ l a' s', Ev (fun k => spec_l12Good.f k c a s) (l, a', s') ∧ Src c a' s' ∧ 1 ≤ l.length ∧ l.length ≤ 12 ∧ ∀ x ∈ l, x.f1 ≤ 1000 := by
  obtain ⟨v1, a1, s1, e1, h1, u0, u1⟩ := next_some h 5 (by omega)
  obtain ⟨v2, a2, s2, e2, h2, v0, v3⟩ := next_some h1 8 (by omega)
  obtain ⟨l, a', s', e, hs, hl⟩ := good12b_l0 c v2.toNat [(⟨(-1), v1⟩ : S200)] a2 s2 h2 (by simp) (by simp; omega) (fun x hm => by
    rw [List.mem_singleton.1 hm]
    show v1 ≤ 1000
    omega)
  rw [show ((v2.toNat : Nat) : Int) = v2 by omega] at e
  refine ⟨l, a', s', ?_, hs, hl⟩
  unfold spec_l12Good.f
  simp only [e1, e2, Option.bind_some]
  exact e
theorem good13_l0 (c : List Int) (l : List S200) (l1 : 1 ≤ l.length) (l2 : l.length ≤ 12) (lx : ∀ x ∈ l, x.f1 ≤ 1000) (n : Int) (hn : 0 ≤ n ∧ n ≤ 20) : ∀ (d : Nat) (i : Int) (w : List S160) (a s : Int), Src c a s → 0 ≤ i → i + d = n → (w.length : Int) ≤ i → ∃ w' a' s', Ev (fun k => spec_l13Good.l0 k l n w i c a s) (l, n, w', a', s') ∧ Src c a' s' ∧ (w'.length : Int) ≤ n
  | 0, i, w, a, s, h, h0, hd, hw => by
    refine ⟨w, a, s, Ev_shift ?_, h, by omega⟩
    simp only [spec_l13Good.l0, if_neg (show ¬ i < n by omega)]
    exact Ev.now _
  | d + 1, i, w, a, s, h, h0, hd, hw => by
    obtain ⟨v, a1, s1, e1, g1, v0, v1⟩ := next_some h (l.length : Int) (by omega)
    have hv : v < (l.length : Int) := by omega
    have hp : (rd_T200 l v).f1 ≤ 1000 := lx _ (by
      show l.getD _ _ ∈ l
      rw [List.getD_eq_getElem?_getD, List.getElem?_eq_getElem (by omega)]
      exact List.getElem_mem _)
    obtain ⟨u, a2, s2, e2, g2, _, _⟩ := next_some g1 (rd_T200 l v).f1 (by omega)
    obtain ⟨z, a3, s3, e3, g3, _, _⟩ := next_some g2 3 (by omega)
    have hw6 := spec_AreWires_ev l (by omega) n (w ++ [(⟨i, v, u⟩ : S160)]) (by simp; omega)
    have ih := fun w' (hw' : (w'.length : Int) ≤ i + 1) => good13_l0 c l l1 l2 lx n hn d (i + 1) w' a3 s3 g3 (by omega) (by omega) hw'
    have one : ∀ q, (∃ b, Ev (fun k => if z > 0 then ((spec_AreWires.f k l n (w ++ [(⟨i, v, u⟩ : S160)])).bind fun t319 => (if t319 = true then (spec_l13Good.l0 k l n (w ++ [(⟨i, v, u⟩ : S160)]) (i + 1) c a3 s3) else (spec_l13Good.l0 k l n w (i + 1) c a3 s3))) else (spec_l13Good.l0 k l n w (i + 1) c a3 s3)) q ∧ b = true) → Ev (fun k => spec_l13Good.l0 k l n w i c a s) q := fun q hq => by
      obtain ⟨_, hq, _⟩ := hq
      refine Ev_shift ?_
      simp only [spec_l13Good.l0, if_pos (show i < n by omega), e1, e2, e3, Option.bind_some, if_pos v0, if_pos hv, List.nil_append, List.length_nil, Nat.zero_add, if_pos (show w.length < 5864062014805 by omega), List.length_singleton, if_pos (show w.length + 1 < 5864062014805 by omega), w64 (n := i + 1) (by omega)]
      exact hq
    have less := ih w (by omega)
    by_cases cz : z > 0
    · by_cases hp6 : PWires l n (w ++ [(⟨i, v, u⟩ : S160)])
      · obtain ⟨w', a', s', e, hs, hl⟩ := ih (w ++ [(⟨i, v, u⟩ : S160)]) (by simp; omega)
        refine ⟨w', a', s', one _ ⟨true, ?_, rfl⟩, hs, hl⟩
        rw [tt_pos hp6] at hw6
        simp only [if_pos cz]
        refine Ev.bind hw6 ?_
        simp only [if_true]
        exact e
      · obtain ⟨w', a', s', e, hs, hl⟩ := less
        refine ⟨w', a', s', one _ ⟨true, ?_, rfl⟩, hs, hl⟩
        rw [tt_neg hp6] at hw6
        simp only [if_pos cz]
        refine Ev.bind hw6 ?_
        simp only [Bool.false_eq_true, if_false]
        exact e
    · obtain ⟨w', a', s', e, hs, hl⟩ := less
      refine ⟨w', a', s', one _ ⟨true, ?_, rfl⟩, hs, hl⟩
      simp only [if_neg cz]
      exact e
theorem good13_ev {c : List Int} {a s : Int} (h : Src c a s) : ∃ l n w a' s', Ev (fun k => spec_l13Good.f k c a s) (l, n, w, a', s') ∧ Src c a' s' ∧ l.length ≤ 12 ∧ (0 ≤ n ∧ n ≤ 20) ∧ w.length ≤ 20 := by
  obtain ⟨l, a1, s1, e1, h1, l1, l2, lx⟩ := good12b_ev h
  obtain ⟨n, a2, s2, e2, h2, n0, n1⟩ := next_some h1 9 (by omega)
  obtain ⟨w, a3, s3, e3, h3, hw⟩ := good13_l0 c l l1 l2 lx n (by omega) n.toNat 0 [] a2 s2 h2 (by omega) (by omega) (by simp)
  refine ⟨l, n, w, a3, s3, ?_, h3, l2, by omega, by omega⟩
  unfold spec_l13Good.f
  refine Ev.bind e1 ?_
  simp only [e2, Option.bind_some]
  exact e3
theorem draw13_ev {c : List Int} {a s : Int} (h : Src c a s) : ∃ l n w a' s', Ev (fun k => spec_l13Draw.f k c a s) (l, n, w, a', s') ∧ Src c a' s' ∧ l.length ≤ 30 ∧ (-1 ≤ n ∧ n ≤ 21) ∧ w.length ≤ 21 := by
  obtain ⟨l, n, w, a1, s1, e1, h1, hl, hn, hw⟩ := good13_ev h
  obtain ⟨u, a2, s2, e2, h2, _, _⟩ := next_some h1 40 (by omega)
  by_cases c0 : u = 0
  · obtain ⟨l', a3, s3, e3, h3, hl'⟩ := draw12_ev h2
    refine ⟨l', n, w, a3, s3, ?_, h3, hl', by omega, by omega⟩
    unfold spec_l13Draw.f
    refine Ev.bind e1 ?_
    simp only [e2, Option.bind_some, if_pos c0]
    exact Ev.bind e3 (Ev.now _)
  · by_cases c1 : u = 1
    · obtain ⟨m, a3, s3, e3, h3, hm⟩ := pick_some h2 [(-1), 0, 20, 21] (by simp) (by simp)
      have hm2 : -1 ≤ m ∧ m ≤ 21 := by simp at hm; omega
      refine ⟨l, m, w, a3, s3, ?_, h3, by omega, hm2, by omega⟩
      unfold spec_l13Draw.f
      refine Ev.bind e1 ?_
      simp only [e2, Option.bind_some, if_neg c0, if_pos c1, e3]
      exact Ev.now _
    · by_cases c2 : u = 2
      · obtain ⟨x, a3, s3, e3, h3, _, _⟩ := next_some h2 10 (by omega)
        obtain ⟨y, a4, s4, e4, h4, _, _⟩ := next_some h3 3 (by omega)
        obtain ⟨z, a5, s5, e5, h5, _, _⟩ := next_some h4 4 (by omega)
        refine ⟨l, n, w ++ [(⟨wrap64 (x - 1), y, z⟩ : S160)], a5, s5, ?_, h5, by omega, by omega, by simp; omega⟩
        unfold spec_l13Draw.f
        refine Ev.bind e1 ?_
        simp only [e2, Option.bind_some, if_neg c0, if_neg c1, if_pos c2, e3, e4, e5, if_pos (show w.length < 5864062014805 by omega)]
        exact Ev.now _
      · by_cases c3 : u = 3
        · by_cases c4 : (w.length : Int) > 0
          · refine ⟨l, n, w ++ [(⟨(rd_T160 w 0).f0, (rd_T160 w 0).f1, (rd_T160 w 0).f2⟩ : S160)], a2, s2, ?_, h2, by omega, by omega, by simp; omega⟩
            unfold spec_l13Draw.f
            refine Ev.bind e1 ?_
            simp only [e2, Option.bind_some, if_neg c0, if_neg c1, if_neg c2, if_pos c3, if_pos c4, if_pos (show 0 < (w.length : Int) from c4), if_pos (show w.length < 5864062014805 by omega)]
            exact Ev.now _
          · refine ⟨l, n, w, a2, s2, ?_, h2, by omega, by omega, by omega⟩
            unfold spec_l13Draw.f
            refine Ev.bind e1 ?_
            simp only [e2, Option.bind_some, if_neg c0, if_neg c1, if_neg c2, if_pos c3, if_neg c4]
            exact Ev.now _
        · refine ⟨l, n, w, a2, s2, ?_, h2, by omega, by omega, by omega⟩
          unfold spec_l13Draw.f
          refine Ev.bind e1 ?_
          simp only [e2, Option.bind_some, if_neg c0, if_neg c1, if_neg c2, if_neg c3]
          exact Ev.now _
theorem drawFreeW_ev (c : List Int) (hc : c.length ≤ 4096) (hb : ∀ x ∈ c, 0 ≤ x ∧ x ≤ 255) : ∃ (l : List S200) (n : Int) (w : List S160) (p : Int), Ev (fun k => spec_DrawFreePins.f k c) (l, n, w, p) ∧ l.length ≤ 30 ∧ (-1 ≤ n ∧ n ≤ 21) ∧ w.length ≤ 21 := by
  obtain ⟨s, e0, h0⟩ := from_ev c hc hb
  obtain ⟨l, n, w, a1, s1, e1, h1, hl, hn, hw⟩ := draw13_ev h0
  obtain ⟨u, a2, s2, e2, h2, _, _⟩ := next_some h1 (wrap64 ((l.length : Int) + 1)) (by rw [w64 (by omega)]; omega)
  obtain ⟨v, a3, s3, e3, h3, _, _⟩ := next_some h2 24 (by omega)
  refine ⟨l, n, w, wrap64 (u - wrap64 (Int.tdiv v 23)), ?_, hl, hn, hw⟩
  unfold spec_DrawFreePins.f
  refine Ev.bind e0 (Ev.bind e1 ?_)
  simp only [e2, e3, Option.bind_some]
  exact Ev.now _
theorem likeWires_l0 (l : List S160) (hl : l.length ≤ 10000000) : ∀ (d : Nat) (i : Int), 0 ≤ i → i + d = l.length → Ev (fun k => laws_likeWires.l0 k l l i) true
  | 0, i, h0, hd => by
    refine Ev_shift ?_
    simp only [laws_likeWires.l0, if_neg (show ¬ i < (l.length : Int) by omega)]
    exact Ev.now _
  | d + 1, i, h0, hd => by
    refine Ev_shift ?_
    simp only [laws_likeWires.l0, if_pos (show i < (l.length : Int) by omega), if_pos h0, beq_self_eq_true, Bool.not_true, Bool.or_false, Bool.false_eq_true, if_false, w64 (n := i + 1) (by omega)]
    exact likeWires_l0 l hl d (i + 1) (by omega) (by omega)
theorem likeWires_self (l : List S160) (hl : l.length ≤ 10000000) : Ev (fun k => laws_likeWires.f k l l) true := by
  unfold laws_likeWires.f
  simp only [if_true]
  exact likeWires_l0 l hl l.length 0 (by omega) (by omega)
theorem loose_count : ∀ (d : Nat) (i : Int) (w : List S160) (p : Int → Bool), AscW w → (∀ b ∈ w, i ≤ b.f0 ∧ b.f0 < i + d) → (∀ c, i ≤ c → (p c = true ↔ ∀ b ∈ w, ¬ b.f0 = c)) → (idxF p d i).length + w.length = d
  | 0, i, [], p, _, _, _ => rfl
  | 0, i, a :: s, p, _, hb, _ => by
    have := hb a (by simp)
    omega
  | d + 1, i, [], p, ha, _, hp => by
    have hi : p i = true := (hp i (Int.le_refl _)).2 (by simp)
    have := loose_count d (i + 1) [] p ha (by simp) (fun c hc => hp c (by omega))
    unfold idxF
    rw [if_pos hi]
    simp only [List.length_cons, List.length_nil] at this ⊢
    omega
  | d + 1, i, a :: s, p, ha, hb, hp => by
    have ha' : (∀ b ∈ s, a.f0 < b.f0) ∧ AscW s := List.pairwise_cons.1 ha
    have h0 := hb a (by simp)
    by_cases e : a.f0 = i
    · have hi : ¬ p i = true := fun h => (hp i (Int.le_refl _)).1 h a (by simp) e
      have := loose_count d (i + 1) s p ha'.2 (fun b hm => by
        have h1 := ha'.1 b hm
        have h2 := hb b (by simp [hm])
        omega) (fun c hc => by
        rw [hp c (by omega)]
        constructor
        · exact fun h b hm => h b (by simp [hm])
        · intro h b hm
          rcases List.mem_cons.1 hm with rfl | hm
          · omega
          · exact h b hm)
      unfold idxF
      rw [if_neg hi]
      simp only [List.length_cons]
      omega
    · have hi : p i = true := (hp i (Int.le_refl _)).2 (fun b hm => by
        rcases List.mem_cons.1 hm with rfl | hm
        · exact e
        · have := ha'.1 b hm
          omega)
      have := loose_count d (i + 1) (a :: s) p ha (fun b hm => by
        have h2 := hb b hm
        rcases List.mem_cons.1 hm with rfl | hm
        · omega
        · have := ha'.1 b hm
          omega) (fun c hc => hp c (by omega))
      unfold idxF
      rw [if_pos hi]
      simp only [List.length_cons] at this ⊢
      omega
theorem findW_iff (w : List S160) (c : Int) : decide (findW c w 0 < 0) = true ↔ ∀ b ∈ w, ¬ b.f0 = c := by
  rw [decide_eq_true_eq]
  rcases findW_cases c w 0 with ⟨e, h⟩ | ⟨p, a, t, e, ha, hp, hf⟩
  · rw [e]
    exact ⟨fun _ => h, fun _ => by omega⟩
  · rw [hf]
    constructor
    · intro h
      omega
    · intro h
      exact absurd ha (h a (by rw [e]; simp))
theorem loose_len {l : List S200} {n : Int} {w : List S160} (h : PWires l n w) : ((looseF n w).length : Int) + (w.length : Int) = n := by
  have h1 := h.2.1
  have := loose_count n.toNat 0 w (fun c => decide (findW c w 0 < 0)) (AscW_of h) (fun b hb => by
    have := wcues h b hb
    omega) (fun c _ => findW_iff w c)
  unfold looseF
  omega
theorem rdW_at (w : List S160) (i : Nat) (hi : i < w.length) : rd_T160 w (i : Int) = w[i] := by
  show w.getD _ _ = _
  rw [Int.toNat_natCast, List.getD_eq_getElem?_getD, List.getElem?_eq_getElem hi]
  rfl
/-- No two wires are at one pin. -/
def ApW : List S160 → Prop := List.Pairwise (fun a b => ¬ (a.f1 = b.f1 ∧ a.f2 = b.f2))
theorem ApW_of {l : List S200} {n : Int} {w : List S160} (h : PWires l n w) : ApW w := by
  refine List.pairwise_iff_getElem.2 fun i j hi hj hij => ?_
  have := (h.2.2 (j : Int) (by omega) (by omega)).2.2.2 (i : Int) (by omega) (by omega)
  unfold MW at this
  rw [rdW_at w i hi, rdW_at w j hj] at this
  exact this
theorem PWires_of {l : List S200} {n : Int} {w : List S160} (hm : PMods l) (hn : 0 ≤ n ∧ n ≤ 20) (hc : ∀ x ∈ w, 0 ≤ x.f0 ∧ x.f0 ≤ n - 1) (hp : ∀ x ∈ w, PPin l x.f1 x.f2) (ha : AscW w) (hq : ApW w) : PWires l n w := by
  refine ⟨hm, hn, fun i i0 i1 => ?_⟩
  obtain ⟨k, rfl⟩ : ∃ k : Nat, i = (k : Int) := ⟨i.toNat, by omega⟩
  have hk : k < w.length := by omega
  unfold QW
  refine ⟨?_, ?_, fun h => ?_, fun j j0 j1 => ?_⟩
  · rw [rdW_at w k hk]
    exact hc _ (List.getElem_mem _)
  · rw [rdW_at w k hk]
    exact hp _ (List.getElem_mem _)
  · rw [show (k : Int) - 1 = ((k - 1 : Nat) : Int) by omega, rdW_at w k hk, rdW_at w (k - 1) (by omega)]
    exact List.pairwise_iff_getElem.1 ha (k - 1) k (by omega) hk (by omega)
  · obtain ⟨m, rfl⟩ : ∃ m : Nat, j = (m : Int) := ⟨j.toNat, by omega⟩
    unfold MW
    rw [rdW_at w k hk, rdW_at w m (by omega)]
    exact List.pairwise_iff_getElem.1 hq m k (by omega) hk (by omega)
theorem insW_split (x : S160) : ∀ w : List S160, ∃ p s, w = p ++ s ∧ insW x w = p ++ x :: s
  | [] => ⟨[], [], rfl, rfl⟩
  | a :: t => by
    obtain ⟨p, s, e, e2⟩ := insW_split x t
    unfold insW
    split
    · exact ⟨a :: p, s, by rw [e]; rfl, by rw [e2]; rfl⟩
    · exact ⟨[], a :: t, rfl, rfl⟩
theorem findW_mid (x : S160) (s : List S160) : ∀ (p : List S160) (i : Int), (∀ b ∈ p, ¬ b.f0 = x.f0) → findW x.f0 (p ++ x :: s) i = i + (p.length : Int)
  | [], i, _ => by simp [findW]
  | a :: p, i, h => by
    have := findW_mid x s p (i + 1) (fun b hb => h b (by simp [hb]))
    simp only [List.cons_append, findW, if_neg (h a (by simp)), this, List.length_cons]
    omega
theorem ins_ok {l : List S200} {n : Int} {w : List S160} (h : PWires l n w) {c : Int} (hc : 0 ≤ c ∧ c ≤ n - 1) (hf : ∀ b ∈ w, ¬ b.f0 = c) (hj : (joinF l w c l.length 0).2 = true) : ∃ W, (joinF l w c l.length 0).1 = W ∧ PWires l n W ∧ W.length = w.length + 1 ∧ 0 ≤ findW c W 0 ∧ W.take (findW c W 0).toNat ++ W.drop (findW c W 0 + 1).toNat = w ∧ (∀ d, (∃ b ∈ W, b.f0 = d) ↔ d = c ∨ ∃ b ∈ w, b.f0 = d) := by
  obtain ⟨x, x0, x1, x2, x3, x4, xe⟩ := joinF_mem l w c l.length 0 hj
  refine ⟨insW x w, xe, ?_, insW_length x w, ?_⟩
  · have hm := h.1
    have hl := hm.1
    have hmem : x.f2 ∈ freeF l w x.f1 := by
      rw [x4]
      cases e : freeF l w x.f1 with
      | nil => rw [e] at x3; exact absurd rfl x3
      | cons a t => show List.getD _ _ _ ∈ _; simp
    have hm2 := (idxF_mem _ _ _ _).1 (show x.f2 ∈ idxF (freeP w x.f1) ((rd_T200 l x.f1).f1).toNat 0 from hmem)
    have hfree : ∀ b ∈ w, ¬ (b.f1 = x.f1 ∧ b.f2 = x.f2) := fun b hb g => by
      obtain ⟨k, hk, rfl⟩ := List.mem_iff_getElem.1 hb
      have hz : ∀ j : Int, 0 ≤ j → j < w.length → ¬ MW w x.f1 x.f2 j := by
        by_cases hq : ∀ j : Int, 0 ≤ j → j < w.length → ¬ MW w x.f1 x.f2 j
        · exact hq
        · have := hm2.2.2
          unfold freeP at this
          rw [tt_neg hq] at this
          cases this
      have := hz (k : Int) (by omega) (by omega)
      unfold MW at this
      rw [rdW_at w k hk] at this
      exact this g
    refine PWires_of hm h.2.1 (fun y hy => ?_) (fun y hy => ?_) (AscW_ins x w (AscW_of h) (fun b hb => by rw [x0]; exact hf b hb)) ?_
    · rcases (insW_mem x w y).1 hy with rfl | hy
      · rw [x0]; exact hc
      · exact wcues h y hy
    · rcases (insW_mem x w y).1 hy with rfl | hy
      · unfold PPin
        exact ⟨⟨x1, by omega⟩, hm2.1, by omega⟩
      · exact wpins h y hy
    · obtain ⟨p, s, e, e2⟩ := insW_split x w
      have ha := ApW_of h
      rw [e2]
      rw [e] at ha
      unfold ApW at ha ⊢
      obtain ⟨a1, a2, a3⟩ := List.pairwise_append.1 ha
      refine List.pairwise_append.2 ⟨a1, List.pairwise_cons.2 ⟨fun b hb g => ?_, a2⟩, fun a hma b hmb => ?_⟩
      · exact hfree b (by rw [e]; simp [hb]) ⟨g.1.symm, g.2.symm⟩
      · rcases List.mem_cons.1 hmb with rfl | hmb
        · exact hfree a (by rw [e]; simp [hma])
        · exact a3 a hma b hmb
  · obtain ⟨p, s, e, e2⟩ := insW_split x w
    have hp : ∀ b ∈ p, ¬ b.f0 = x.f0 := fun b hb => by rw [x0]; exact hf b (by rw [e]; simp [hb])
    have hz := findW_mid x s p 0 hp
    rw [x0] at hz
    rw [e2, hz]
    refine ⟨by omega, ?_, fun d => ?_⟩
    · rw [show (0 + (p.length : Int)).toNat = p.length by omega, show (0 + (p.length : Int) + 1).toNat = p.length + 1 by omega, e]
      simp [List.drop_append]
    · rw [e]
      constructor
      · rintro ⟨b, hb, rfl⟩
        rcases List.mem_append.1 hb with hb | hb
        · exact .inr ⟨b, by simp [hb], rfl⟩
        · rcases List.mem_cons.1 hb with rfl | hb
          · exact .inl x0
          · exact .inr ⟨b, by simp [hb], rfl⟩
      · rintro (rfl | ⟨b, hb, rfl⟩)
        · exact ⟨x, by simp, x0⟩
        · refine ⟨b, ?_, rfl⟩
          rcases List.mem_append.1 hb with hb | hb
          · simp [hb]
          · simp [hb]
theorem loosei_val {m0 : List S200} (hn0 : m0.length ≤ 1000000) {a1 : Int} {m2 : List S160} (hn2 : m2.length ≤ 1000000) (h : PWires m0 a1 m2) : Ev (fun k => impl_LooseCues.f k m0 a1 m2) (looseF a1 m2, 0) := by
  have hi := impl_AreWires_ev m0 hn0 a1 m2 hn2
  rw [tt_pos h] at hi
  unfold impl_LooseCues.f
  refine Ev.bind hi ?_
  simp only [if_true]
  exact Ev.bind (impl_loose m2 hn2 h.2.1) (Ev.now _)
/-- What CueAt tells of a right pin. -/
theorem cueat_val {l : List S200} {n : Int} {w : List S160} (h : PWires l n w) (hw : w.length ≤ 1000000) {m p : Int} (hp : PPin l m p) : (∃ q : Int, 0 ≤ q ∧ q < w.length ∧ MW w m p q ∧ Ev (fun k => impl_CueAt.f k l n w m p) ((rd_T160 w q).f0, 0)) ∨ (∀ j : Int, 0 ≤ j → j < w.length → ¬ MW w m p j) ∧ Ev (fun k => impl_CueAt.f k l n w m p) (0, 4) := by
  have hi := impl_AreWires_ev l (by have := h.1.2.1; omega) n w hw
  rw [tt_pos h] at hi
  obtain ⟨r, er, hr⟩ := impl_cueAt_ev w (by omega) m p
  have go : ∀ q, Ev (fun k => if r < 0 then (some ((0 : Int), (4 : Int))) else (some (r, 0))) q → Ev (fun k => impl_CueAt.f k l n w m p) q := fun q hq => by
    unfold impl_CueAt.f
    refine Ev.bind hi ?_
    simp only [if_true, impl_pin_eq h.1, Option.bind_some, tt_pos hp]
    exact Ev.bind er hq
  rcases hr with ⟨rfl, hz⟩ | ⟨q, q0, q1, qm, rfl⟩
  · refine .inr ⟨hz, go _ ?_⟩
    simp only [if_pos (show (-1 : Int) < 0 by decide)]
    exact Ev.now _
  · refine .inl ⟨q, q0, q1, qm, go _ ?_⟩
    have hc : 0 ≤ (rd_T160 w q).f0 := (h.2.2 q q0 q1).1.1
    simp only [if_neg (show ¬ (rd_T160 w q).f0 < 0 by omega)]
    exact Ev.now _
theorem cueat_evs (m0 : List S200) (a1 : Int) (m2 : List S160) (a3 : Int) (a4 : Int) (hn0 : m0.length ≤ 1000000) (hn2 : m2.length ≤ 1000000) : ∃ q : Int × Int, Ev (fun k => spec_CueAt.f k m0 a1 m2 a3 a4) q ∧ Ev (fun k => impl_CueAt.f k m0 a1 m2 a3 a4) q := by
  have fin : ∀ q : Int × Int, Ev (fun k => spec_CueAt.f k m0 a1 m2 a3 a4) q → Ev (fun k => impl_CueAt.f k m0 a1 m2 a3 a4) q → ∃ q : Int × Int, Ev (fun k => spec_CueAt.f k m0 a1 m2 a3 a4) q ∧ Ev (fun k => impl_CueAt.f k m0 a1 m2 a3 a4) q := by
    exact fun q e1 e2 => ⟨q, e1, e2⟩
  have hs := wcode_ev m0 hn0 a1 m2 hn2 0 0
  have hi := impl_AreWires_ev m0 hn0 a1 m2 hn2
  obtain ⟨z, ez, hz⟩ := spec_l13At_ev m2 (by omega) a3 a4
  obtain ⟨y, ey, hy⟩ := impl_cueAt_ev m2 (by omega) a3 a4
  have jbad : ∀ c : Int, c ≠ 0 → Ev (fun k => spec_CueAt.j1 k m2 a3 a4 c) ((0 : Int), c) := fun c hc => by
    refine Ev_shift ?_
    simp only [spec_CueAt.j1]
    refine Ev.bind ez ?_
    simp only [if_neg hc]
    refine Ev_shift ?_
    simp only [spec_CueAt.j2, Bool.false_eq_true, if_false, if_neg hc]
    exact Ev.now _
  by_cases h : PWires m0 a1 m2
  · rw [tt_pos h] at hi
    have hm := h.1
    have hl := hm.1
    rw [tt_pos h, if_pos rfl, if_pos ⟨⟨Int.le_refl _, by omega⟩, Int.le_refl _, by omega⟩] at hs
    by_cases c : PPin m0 a3 a4
    · have sc : ∀ q, Ev (fun k => spec_CueAt.j2 k m2 0 z (decide (z < 0))) q → Ev (fun k => spec_CueAt.f k m0 a1 m2 a3 a4) q := fun q hq => by
        unfold spec_CueAt.f
        refine Ev.bind hs ?_
        simp only [if_true, spec_pin_eq hm, Option.bind_some, tt_pos c, Bool.not_true]
        refine Ev_shift ?_
        simp only [spec_CueAt.j0, Bool.false_eq_true, if_false]
        refine Ev_shift ?_
        simp only [spec_CueAt.j1]
        refine Ev.bind ez ?_
        simp only [if_true]
        exact hq
      have ic : ∀ q, (if y < 0 then ((0 : Int), (4 : Int)) else (y, 0)) = q → Ev (fun k => impl_CueAt.f k m0 a1 m2 a3 a4) q := fun q hq => by
        unfold impl_CueAt.f
        refine Ev.bind hi ?_
        simp only [if_true, impl_pin_eq hm, Option.bind_some, tt_pos c]
        refine Ev.bind ey ?_
        by_cases g : y < 0
        · rw [if_pos g] at hq
          simp only [if_pos g]
          exact Ev_some hq
        · rw [if_neg g] at hq
          simp only [if_neg g]
          exact Ev_some hq
      rcases hz with ⟨rfl, hz⟩ | ⟨z0, z1, zm, hz⟩
      · have hy0 : y = -1 := by
          rcases hy with ⟨e, _⟩ | ⟨q, q0, q1, qm, _⟩
          · exact e
          · exact absurd qm (hz q q0 q1)
        refine fin (0, 4) (sc _ ?_) (ic _ (by rw [hy0]; rfl))
        simp only [show decide ((-1 : Int) < 0) = true from rfl]
        refine Ev_shift ?_
        simp only [spec_CueAt.j2, if_true, if_neg (show ¬ (4 : Int) = 0 by decide), if_neg (show ¬ (4 : Nat) = 0 by decide)]
        exact Ev.now _
      · have hyz : y = (rd_T160 m2 z).f0 := by
          rcases hy with ⟨_, hy⟩ | ⟨q, q0, q1, qm, e⟩
          · exact absurd zm (hy z z0 z1)
          · have e2 : q = z := by
              rcases Int.lt_or_le q z with g | g
              · exact absurd qm (hz q q0 g)
              · rcases Int.lt_or_le z q with g2 | g2
                · have := (h.2.2 q q0 q1).2.2.2 z z0 g2
                  refine absurd ?_ this
                  unfold MW at qm zm ⊢
                  exact ⟨by rw [zm.1, qm.1], by rw [zm.2, qm.2]⟩
                · omega
            rw [e, e2]
        have hc := (h.2.2 z z0 z1).1
        refine fin (y, 0) (sc _ ?_) (ic _ (by rw [if_neg (by omega)]))
        simp only [decide_eq_false (show ¬ z < 0 by omega)]
        refine Ev_shift ?_
        simp only [spec_CueAt.j2, Bool.false_eq_true, if_false, if_true, if_pos z0, if_pos z1]
        exact Ev_some (by rw [hyz])
    · refine fin (0, 2) ?_ ?_
      · unfold spec_CueAt.f
        refine Ev.bind hs ?_
        simp only [if_true, spec_pin_eq hm, Option.bind_some, tt_neg c, Bool.not_false]
        refine Ev_shift ?_
        simp only [spec_CueAt.j0, if_true]
        exact jbad 2 (by decide)
      · unfold impl_CueAt.f
        refine Ev.bind hi ?_
        simp only [if_true, impl_pin_eq hm, Option.bind_some, tt_neg c, Bool.false_eq_true, if_false]
        exact Ev.now _
  · rw [tt_neg h] at hi
    rw [tt_neg h, if_neg (by decide)] at hs
    refine fin (0, 1) ?_ ?_
    · unfold spec_CueAt.f
      refine Ev.bind hs ?_
      simp only [if_neg (show ¬ (1 : Int) = 0 by decide)]
      refine Ev_shift ?_
      simp only [spec_CueAt.j0, Bool.false_eq_true, if_false]
      exact jbad 1 (by decide)
    · unfold impl_CueAt.f
      refine Ev.bind hi ?_
      simp only [Bool.false_eq_true, if_false]
      exact Ev.now _
theorem drawAllW_ev (c : List Int) (hc : c.length ≤ 4096) (hb : ∀ x ∈ c, 0 ≤ x ∧ x ≤ 255) : ∃ (l : List S200) (n : Int) (w : List S160), Ev (fun k => spec_DrawWireAll.f k c) (l, n, w) ∧ l.length ≤ 30 ∧ (-1 ≤ n ∧ n ≤ 21) ∧ w.length ≤ 21 := by
  obtain ⟨s, e0, h0⟩ := from_ev c hc hb
  obtain ⟨l, n, w, a1, s1, e1, h1, hl, hn, hw⟩ := draw13_ev h0
  refine ⟨l, n, w, ?_, hl, hn, hw⟩
  unfold spec_DrawWireAll.f
  exact Ev.bind e0 (Ev.bind e1 (Ev.now _))
theorem drawMoveW_ev (c : List Int) (hc : c.length ≤ 4096) (hb : ∀ x ∈ c, 0 ≤ x ∧ x ≤ 255) : ∃ (l : List S200) (n : Int) (w : List S160) (q m p : Int), Ev (fun k => spec_DrawMoveWire.f k c) (l, n, w, q, m, p) ∧ l.length ≤ 30 ∧ (-1 ≤ n ∧ n ≤ 21) ∧ w.length ≤ 21 := by
  obtain ⟨s, e0, h0⟩ := from_ev c hc hb
  obtain ⟨l, n, w, a1, s1, e1, h1, hl, hn, hw⟩ := draw13_ev h0
  obtain ⟨u, a2, s2, e2, h2, _, _⟩ := next_some h1 (wrap64 (n + 1)) (by rw [w64 (by omega)]; omega)
  obtain ⟨v, a3, s3, e3, h3, v0, v1⟩ := next_some h2 12 (by omega)
  have hz : wrap64 ((l.length : Int) + wrap64 (Int.tdiv v 11)) ≤ 1000000000000 := by
    have : 0 ≤ Int.tdiv v 11 ∧ Int.tdiv v 11 ≤ 12 := by rw [Int.tdiv_eq_ediv_of_nonneg v0]; omega
    rw [w64 (n := Int.tdiv v 11) (by omega), w64 (by omega)]
    omega
  obtain ⟨x, a4, s4, e4, h4, _, _⟩ := next_some h3 _ hz
  obtain ⟨y, a5, s5, e5, h5, _, _⟩ := next_some h4 6 (by omega)
  obtain ⟨z, a6, s6, e6, h6, _, _⟩ := next_some h5 24 (by omega)
  refine ⟨l, n, w, u, x, wrap64 (y - wrap64 (Int.tdiv z 23)), ?_, hl, hn, hw⟩
  unfold spec_DrawMoveWire.f
  refine Ev.bind e0 (Ev.bind e1 ?_)
  simp only [e2, e3, e4, e5, e6, Option.bind_some]
  exact Ev.now _
theorem drawCueAt_ev (c : List Int) (hc : c.length ≤ 4096) (hb : ∀ x ∈ c, 0 ≤ x ∧ x ≤ 255) : ∃ (l : List S200) (n : Int) (w : List S160) (m p : Int), Ev (fun k => spec_DrawCueAt.f k c) (l, n, w, m, p) ∧ l.length ≤ 30 ∧ (-1 ≤ n ∧ n ≤ 21) ∧ w.length ≤ 21 := by
  obtain ⟨s, e0, h0⟩ := from_ev c hc hb
  obtain ⟨l, n, w, q, m, p, e1, hl, hn, hw⟩ := drawMoveW_ev c hc hb
  by_cases g : (w.length : Int) > 0
  · obtain ⟨u, a2, s2, e2, h2, _, _⟩ := next_some h0 2 (by omega)
    by_cases g2 : u = 0
    · obtain ⟨v, a3, s3, e3, h3, v0, v1⟩ := next_some h2 (w.length : Int) (by omega)
      refine ⟨l, n, w, (rd_T160 w v).f1, (rd_T160 w v).f2, ?_, hl, hn, hw⟩
      unfold spec_DrawCueAt.f
      refine Ev.bind e0 (Ev.bind e1 ?_)
      simp only [if_pos g, e2, Option.bind_some, if_pos g2, e3, if_pos v0, if_pos (show v < (w.length : Int) by omega)]
      exact Ev.now _
    · refine ⟨l, n, w, m, p, ?_, hl, hn, hw⟩
      unfold spec_DrawCueAt.f
      refine Ev.bind e0 (Ev.bind e1 ?_)
      simp only [if_pos g, e2, Option.bind_some, if_neg g2]
      exact Ev.now _
  · refine ⟨l, n, w, m, p, ?_, hl, hn, hw⟩
    unfold spec_DrawCueAt.f
    refine Ev.bind e0 (Ev.bind e1 ?_)
    simp only [if_neg g]
    exact Ev.now _
theorem drawBelowW_ev (c : List Int) (hc : c.length ≤ 4096) (hb : ∀ x ∈ c, 0 ≤ x ∧ x ≤ 255) : ∃ (l : List S200) (n : Int) (w : List S160) (m : Int), Ev (fun k => spec_DrawCuesBelow.f k c) (l, n, w, m) ∧ l.length ≤ 30 ∧ (-1 ≤ n ∧ n ≤ 21) ∧ w.length ≤ 21 := by
  obtain ⟨l, n, w, m, e, h⟩ := drawFreeW_ev c hc hb
  refine ⟨l, n, w, m, ?_, h⟩
  unfold spec_DrawCuesBelow.f
  exact Ev.bind e (Ev.now _)
theorem all_ok {l : List S200} {n : Int} : ∀ (s : List Int) (w W : List S160), PWires l n w → s.Nodup → (∀ c ∈ s, (0 ≤ c ∧ c ≤ n - 1) ∧ ∀ b ∈ w, ¬ b.f0 = c) → allF l s w = (W, 0) → PWires l n W ∧ ∀ d, (∃ b ∈ W, b.f0 = d) ↔ d ∈ s ∨ ∃ b ∈ w, b.f0 = d
  | [], w, W, h, _, _, e => by
    unfold allF at e
    injection e with e _
    subst e
    exact ⟨h, fun d => by simp⟩
  | c :: s, w, W, h, hn, hs, e => by
    unfold allF at e
    obtain ⟨n1, n2⟩ := List.nodup_cons.1 hn
    have hc := hs c (by simp)
    by_cases g : (joinF l w c l.length 0).2 = true
    · rw [if_pos g] at e
      obtain ⟨V, eV, hV, _, _, _, hd⟩ := ins_ok h hc.1 hc.2 g
      rw [eV] at e
      obtain ⟨hW, hd2⟩ := all_ok s V W hV n2 (fun x hx => ⟨(hs x (by simp [hx])).1, fun b hb g2 => by
        rcases (hd x).1 ⟨b, hb, g2⟩ with rfl | ⟨b', hb', e'⟩
        · exact n1 hx
        · exact (hs x (by simp [hx])).2 b' hb' e'⟩) e
      refine ⟨hW, fun d => ?_⟩
      rw [hd2 d, hd d, List.mem_cons]
      constructor
      · rintro (h | h | h)
        · exact .inl (.inr h)
        · exact .inl (.inl h)
        · exact .inr h
      · rintro ((h | h) | h)
        · exact .inr (.inl h)
        · exact .inl h
        · exact .inr (.inr h)
    · rw [if_neg g] at e
      injection e with _ e
      cases e
theorem all_loose {l : List S200} {n : Int} {w W : List S160} (h : PWires l n w) (e : allF l (looseF n w) w = (W, 0)) : PWires l n W ∧ looseF n W = [] ∧ (W.length : Int) = n := by
  have hn := h.2.1
  obtain ⟨hW, hd⟩ := all_ok (looseF n w) w W h (idxF_nodup2 _ _ _) (fun c hc => by
    have := (idxF_mem _ _ _ _).1 (show c ∈ idxF (fun c => decide (findW c w 0 < 0)) n.toNat 0 from hc)
    exact ⟨⟨this.1, by omega⟩, (findW_iff w c).1 this.2.2⟩) e
  have he : looseF n W = [] := by
    refine List.eq_nil_iff_forall_not_mem.2 fun c hc => ?_
    have h1 := (idxF_mem _ _ _ _).1 (show c ∈ idxF (fun c => decide (findW c W 0 < 0)) n.toNat 0 from hc)
    have h2 := (findW_iff W c).1 h1.2.2
    have h3 : ¬ ∃ b ∈ W, b.f0 = c := fun ⟨b, hb, e⟩ => h2 b hb e
    rw [hd c] at h3
    refine h3 ?_
    by_cases g : ∃ b ∈ w, b.f0 = c
    · exact .inr g
    · refine .inl ((idxF_mem _ _ _ _).2 ⟨h1.1, h1.2.1, (findW_iff w c).2 fun b hb e => g ⟨b, hb, e⟩⟩)
  have hl := loose_len hW
  rw [he] at hl
  exact ⟨hW, he, by simpa using hl⟩
theorem rdW_set (w : List S160) (i j : Int) (v : S160) (h0 : 0 ≤ i) (h1 : i < w.length) (j0 : 0 ≤ j) : rd_T160 (w.set i.toNat v) j = if j = i then v else rd_T160 w j := by
  show List.getD _ _ _ = if j = i then v else List.getD _ _ _
  rw [List.getD_eq_getElem?_getD, List.getElem?_set]
  by_cases e : j = i
  · subst e
    rw [if_pos rfl, if_pos (by omega), if_pos rfl]
    rfl
  · rw [if_neg (show ¬ i.toNat = j.toNat by omega), if_neg e, ← List.getD_eq_getElem?_getD]
theorem movW_at (w : List S160) {i : Int} (m p : Int) (h0 : 0 ≤ i) (h1 : i < w.length) {j : Int} (j0 : 0 ≤ j) : rd_T160 (movW w i m p) j = if j = i then (⟨(rd_T160 w i).f0, m, p⟩ : S160) else rd_T160 w j := by
  unfold movW
  rw [rdW_set _ i j _ h0 (by simpa using h1) j0]
  by_cases e : j = i
  · rw [if_pos e, if_pos e, rdW_set w i i _ h0 h1 h0, if_pos rfl]
  · rw [if_neg e, if_neg e, rdW_set w i j _ h0 h1 j0, if_neg e]
theorem move_ok {l : List S200} {n : Int} {w : List S160} (h : PWires l n w) {i m p : Int} (h0 : 0 ≤ i) (h1 : i < w.length) (hp : PPin l m p) (hu : ∀ j : Int, 0 ≤ j → j < w.length → MW w m p j → j = i) : PWires l n (movW w i m p) := by
  refine ⟨h.1, h.2.1, fun j j0 j1 => ?_⟩
  rw [movW_length] at j1
  have hj := h.2.2 j j0 j1
  have at_ : ∀ k : Int, 0 ≤ k → (rd_T160 (movW w i m p) k).f0 = (rd_T160 w k).f0 := fun k k0 => by
    rw [movW_at w m p h0 h1 k0]
    split
    · rename_i e
      rw [e]
    · rfl
  unfold QW at hj ⊢
  refine ⟨by rw [at_ j j0]; exact hj.1, ?_, fun g => by rw [at_ j j0, at_ (j - 1) (by omega)]; exact hj.2.2.1 g, fun k k0 k1 => ?_⟩
  · rw [movW_at w m p h0 h1 j0]
    split
    · exact hp
    · exact hj.2.1
  · unfold MW
    rw [movW_at w m p h0 h1 j0, movW_at w m p h0 h1 k0]
    by_cases e : j = i
    · rw [if_pos e, if_neg (show ¬ k = i by omega)]
      intro g
      have := hu k k0 (by omega) g
      omega
    · rw [if_neg e]
      by_cases e2 : k = i
      · rw [if_pos e2]
        intro g
        exact e (hu j j0 j1 ⟨g.1.symm, g.2.symm⟩)
      · rw [if_neg e2]
        exact hj.2.2.2 k k0 k1
theorem move_cue {l : List S200} {n : Int} {w : List S160} (h : PWires l n w) (hw : w.length ≤ 1000000) {i m p : Int} (h0 : 0 ≤ i) (h1 : i < w.length) (hp : PPin l m p) (hu : ∀ j : Int, 0 ≤ j → j < w.length → MW w m p j → j = i) : Ev (fun k => impl_CueAt.f k l n (movW w i m p) m p) ((rd_T160 w i).f0, 0) := by
  have hx := move_ok h h0 h1 hp hu
  rcases cueat_val hx (by rw [movW_length]; exact hw) hp with ⟨q, q0, q1, qm, e⟩ | ⟨hz, _⟩
  · rw [movW_length] at q1
    have eq : q = i := by
      by_cases g : q = i
      · exact g
      · unfold MW at qm
        rw [movW_at w m p h0 h1 q0, if_neg g] at qm
        exact hu q q0 q1 qm
    rw [movW_at w m p h0 h1 q0, if_pos eq] at e
    exact e
  · exfalso
    refine hz i h0 (by rw [movW_length]; exact h1) ?_
    unfold MW
    rw [movW_at w m p h0 h1 h0, if_pos rfl]
    exact ⟨rfl, rfl⟩
theorem cb_all (p : Int → Bool) : ∀ s : List S160, (∀ a ∈ s, p a.f1 = true) → (cbF p s).length = s.length
  | [], _ => rfl
  | a :: s, h => by
    unfold cbF
    rw [if_pos (h a (by simp)), List.length_cons, List.length_cons, cb_all p s (fun b hb => h b (by simp [hb]))]
theorem cb_zero {l : List S200} {n : Int} {w : List S160} (h : PWires l n w) : (cbF (belowP l 0) w).length = w.length := by
  have hl := h.1.2.1
  refine cb_all _ w fun a ha => ?_
  have := (wpins h a ha).1
  unfold belowP
  exact decide_eq_true (zero_mem h.1 12 a.f1 this.1 (by omega) (by omega))
theorem FnWired : laws_FnWired.Pure := by
  intro c _ _ hw
  have hb := u8_rng hw
  by_cases big : (c.length : Int) > 4096
  · refine ⟨0, ?_⟩
    unfold laws_FnWired.f laws_big.f
    simp only [Option.bind_some, decide_eq_true big, if_true]
  · suffices hq : Ev (fun k => laws_FnWired.f k c) true by
      obtain ⟨K, hK⟩ := hq
      exact ⟨K, hK K (Nat.le_refl _)⟩
    obtain ⟨l, n, w, ed, hl, hn, hwl⟩ := drawAllW_ev c (by omega) hb
    obtain ⟨l2, n2, w2, cu, m2, p2, ed2, hl2, hn2, hwl2⟩ := drawMoveW_ev c (by omega) hb
    obtain ⟨l3, n3, w3, m3, p3, ed3, hl3, hn3, hwl3⟩ := drawCueAt_ev c (by omega) hb
    obtain ⟨l4, n4, w4, m4, ed4, hl4, hn4, hwl4⟩ := drawBelowW_ev c (by omega) hb
    obtain ⟨⟨W, wc⟩, ws, wi, W1, W2⟩ := wireall_ev l (by omega) n w (by omega)
    obtain ⟨⟨x, xc⟩, xs, xi, x1, x2⟩ := move_ev l2 (by omega) n2 w2 (by omega) cu m2 p2
    obtain ⟨⟨u, uc⟩, us, ui⟩ := cueat_evs l3 n3 w3 m3 p3 (by omega) (by omega)
    obtain ⟨⟨y, yc⟩, ys, yi, y1, y2⟩ := cues_ev l4 (by omega) n4 w4 (by omega) m4
    simp only at W1 W2 x1 x2 y1 y2
    unfold laws_FnWired.f laws_big.f
    simp only [Option.bind_some, decide_eq_false big, Bool.false_eq_true, if_false]
    refine Ev.bind ed (Ev.bind wi (Ev.bind ws (Ev.bind ed2 (Ev.bind xi (Ev.bind xs (Ev.bind ed3 (Ev.bind ui (Ev.bind us (Ev.bind ed4 (Ev.bind yi (Ev.bind ys ?_)))))))))))
    simp only [if_true]
    refine Ev.bind (likeWires_self W (by omega)) ?_
    simp only [if_true]
    refine Ev.bind (likeWires_self x (by omega)) ?_
    simp only [if_true]
    refine Ev.bind (likeInts_self y (by omega)) ?_
    simp only [Bool.not_true]
    have j2 : Ev (fun k => laws_FnWired.j2 k l n W wc false) true := by
      refine Ev_shift ?_
      simp only [laws_FnWired.j2, Bool.false_eq_true, if_false]
      by_cases g : wc = 0
      · obtain ⟨hp, he⟩ := W2 g
        rw [g] at he
        obtain ⟨hW, hlo, hlen⟩ := all_loose hp he
        have li := loosei_val (by omega) (by omega) hW
        rw [hlo] at li
        have ha := impl_AreWires_ev l (by omega) n W (by have := hW.2.1; omega)
        rw [tt_pos hW] at ha
        simp only [if_pos g]
        refine Ev.bind li ?_
        simp only [if_true, List.length_nil, Int.natCast_zero, if_pos hlen]
        exact Ev.bind ha (Ev.now _)
      · simp only [if_neg g]
        exact Ev.now _
    have j1 : Ev (fun k => laws_FnWired.j1 k l n W wc w4 m4 y yc) true := by
      refine Ev_shift ?_
      simp only [laws_FnWired.j1]
      by_cases g : yc = 0
      · by_cases g2 : m4 = 0
        · obtain ⟨hp, he⟩ := y2 g
          rw [g2] at he
          have hlen := cb_zero hp
          rw [← he] at hlen
          simp only [if_pos g, if_pos g2, hlen, bne_self_eq_false]
          exact j2
        · simp only [if_pos g, if_neg g2]
          exact j2
      · simp only [if_neg g]
        exact j2
    refine Ev_shift ?_
    simp only [laws_FnWired.j0, Bool.false_eq_true, if_false]
    by_cases g : xc = 0
    · obtain ⟨hp, hpin, c0, c1, f0, hx, hu⟩ := x2 g
      have hfa : findW cu w2 0 < w2.length ∧ (rd_T160 w2 (findW cu w2 0)).f0 = cu := by
        rcases findW_at w2 cu with ⟨e, _⟩ | ⟨_, a, b⟩
        · omega
        · exact ⟨a, b⟩
      have hcue := move_cue hp (by omega) f0 hfa.1 hpin hu
      have hmo := move_ok hp f0 hfa.1 hpin hu
      rw [← hx, hfa.2] at hcue
      rw [← hx] at hmo
      have ha := impl_AreWires_ev l2 (by omega) n2 x (by rw [hx, movW_length]; omega)
      rw [tt_pos hmo] at ha
      simp only [if_pos g]
      refine Ev.bind hcue ?_
      simp only [if_true]
      refine Ev.bind ha ?_
      simp only [if_true]
      exact j1
    · simp only [if_neg g]
      exact j1
end Go.Proofs.Ytedcdhnbceaaeaa.Pure
