/- PureFnModuleChanges of the law FnModuleChanges: taken over, declaration by declaration, as far as the law leans on it (the words and the printed functions are the kit's own print). No condition but what each says. -/
import Derived.Test.YtmahecjbejffoaaZFnModuleChangesav
import Derived.Test.YtmahecjbejffoaaZFnModuleChangesaw
import Derived.Test.YtmahecjbejffoaaZFnModuleChangesax
import Derived.Test.YtmahecjbejffoaaZFnModuleChangesay
import Derived.Test.YtmahecjbejffoaaZFnModuleChangesaz
import Derived.Test.YtmahecjbejffoaaZFnModuleChangesba
import Derived.Test.YtmahecjbejffoaaZFnModuleChangesbb
import Derived.Test.YtmahecjbejffoaaZFnModuleChangesbc
import Derived.Test.YtmahecjbejffoaaZFnModuleChangesbd
import Derived.Test.YtmahecjbejffoaaZFnModuleChangesbe
namespace Go.Proofs.Ytmahecjbejffoaa.Pure
open Go.RowKit Go.Proofs.Ytmahecjbejffoaa.PFnModuleChanges Go.Proofs.YtmahecjbejffoaaW.PrintWords Go.Proofs.YtmahecjbejffoaaW.PrintLast Go.Proofs.Ytmahecjbejffoaa.Opening
set_option linter.unusedVariables false
set_option linter.unusedSimpArgs false
theorem w64 {n : Int} (h : -9223372036854775808 ≤ n ∧ n ≤ 9223372036854775807) : wrap64 n = n := by
  unfold wrap64
  omega
theorem l01In_eq (a b c : Int) : spec_l01In.f a b c = some (decide (b ≤ a ∧ a ≤ c)) := by
  unfold spec_l01In.f
  by_cases h : b ≤ a <;> simp [h]
theorem within_eq (a b c : Int) : impl_within.f a b c = some (decide (b ≤ a ∧ a ≤ c)) := by
  unfold impl_within.f
  by_cases h : b ≤ a <;> simp [h]
theorem drop_cons {α : Type} {l : List α} {i : Int} {a : α} {s : List α} (z : α) (h0 : 0 ≤ i) (h : l.drop i.toNat = a :: s) : i < l.length ∧ l.getD i.toNat z = a ∧ l.drop (i + 1).toNat = s := by
  have hlt : i.toNat < l.length := by
    rcases Nat.lt_or_ge i.toNat l.length with h1 | h1
    · exact h1
    · rw [List.drop_eq_nil_of_le h1] at h; cases h
  rw [List.drop_eq_getElem_cons hlt] at h
  injection h with h1 h2
  refine ⟨by omega, ?_, ?_⟩
  · rw [List.getD_eq_getElem?_getD, List.getElem?_eq_getElem hlt]; exact h1
  · rw [show (i + 1).toNat = i.toNat + 1 by omega]; exact h2
theorem drop_nil {α : Type} {l : List α} {i : Int} (h0 : 0 ≤ i) (h : l.drop i.toNat = []) : ¬ i < (l.length : Int) := by
  have := List.drop_eq_nil_iff.1 h
  omega
theorem Ev_shift {α : Type} {g : Nat → Option α} {r : α} (h : Ev (fun k => g (k + 1)) r) : Ev g r := Ev.step (fun _ => rfl) h
theorem Ev_eq {α : Type} {g : Nat → Option α} {r q : α} (h : Ev g r) (e : r = q) : Ev g q := e ▸ h
theorem Ev_some {α : Type} {r q : α} (e : r = q) : Ev (fun _ => some r) q := e ▸ Ev.now r
noncomputable def tt (p : Prop) : Bool := @decide p (Classical.propDecidable p)
theorem tt_pos {p : Prop} (h : p) : tt p = true := by unfold tt; exact @decide_eq_true p (Classical.propDecidable p) h
theorem tt_neg {p : Prop} (h : ¬ p) : tt p = false := by unfold tt; exact @decide_eq_false p (Classical.propDecidable p) h
theorem tt_dec (p : Prop) [i : Decidable p] : tt p = decide p := by
  by_cases h : p
  · rw [tt_pos h, decide_eq_true h]
  · rw [tt_neg h, decide_eq_false h]
theorem tt_iff {p q : Prop} (h : p ↔ q) : tt p = tt q := by rw [propext h]
theorem tt_and (p q : Prop) : (tt p && tt q) = tt (p ∧ q) := by
  by_cases h : p
  · rw [tt_pos h, Bool.true_and]; exact tt_iff ⟨fun x => ⟨h, x⟩, fun x => x.2⟩
  · rw [tt_neg h, Bool.false_and, tt_neg (fun x => h x.1)]
theorem ev_all {L : Int → Nat → Option Bool} {P : Int → Prop} {n : Int} {fin : Bool} (h1 : ∀ i, 0 ≤ i → i < n → P i → ∀ r, Ev (L (i + 1)) r → Ev (L i) r) (h2 : ∀ i, 0 ≤ i → i < n → ¬ P i → Ev (L i) false) (h3 : Ev (L n) fin) :
    ∀ (d : Nat) (i : Int), 0 ≤ i → i + d = n → Ev (L i) (fin && tt (∀ j, i ≤ j → j < n → P j))
  | 0, i, h0, hd => by
    have e : i = n := by omega
    rw [e, tt_pos (fun j h1 h2 => by omega), Bool.and_true]
    exact h3
  | d + 1, i, h0, hd => by
    by_cases hp : P i
    · have := h1 i h0 (by omega) hp _ (ev_all h1 h2 h3 d (i + 1) (by omega) (by omega))
      refine Ev_eq this ?_
      congr 1
      exact tt_iff ⟨fun h j h1 h2 => by
        by_cases e : j = i
        · rw [e]; exact hp
        · exact h j (by omega) h2, fun h j h1 h2 => h j (by omega) h2⟩
    · rw [tt_neg (fun h => hp (h i (Int.le_refl _) (by omega))), Bool.and_false]
      exact h2 i h0 (by omega) hp
/-- The numbers from i on, d of them looked at, that are told true. -/
def idxF (p : Int → Bool) : Nat → Int → List Int
  | 0, _ => []
  | d + 1, i => if p i = true then i :: idxF p d (i + 1) else idxF p d (i + 1)
theorem idxF_length (p : Int → Bool) : ∀ (d : Nat) (i : Int), (idxF p d i).length ≤ d
  | 0, _ => Nat.le_refl _
  | d + 1, i => by
    unfold idxF
    have := idxF_length p d (i + 1)
    split
    · simp only [List.length_cons]
      omega
    · omega
theorem ev_filter {ρ : Type} {L : Int → List Int → Nat → Option ρ} {p : Int → Bool} {n : Int} {fin : List Int → ρ}
    (h1 : ∀ (i : Int) (out : List Int), 0 ≤ i → i < n → (out.length : Int) ≤ i → p i = true → ∀ r, Ev (L (i + 1) (out ++ [i])) r → Ev (L i out) r)
    (h2 : ∀ (i : Int) (out : List Int), 0 ≤ i → i < n → (out.length : Int) ≤ i → p i = false → ∀ r, Ev (L (i + 1) out) r → Ev (L i out) r)
    (h3 : ∀ out : List Int, (out.length : Int) ≤ n → Ev (L n out) (fin out)) :
    ∀ (d : Nat) (i : Int) (out : List Int), 0 ≤ i → i + d = n → (out.length : Int) ≤ i → Ev (L i out) (fin (out ++ idxF p d i))
  | 0, i, out, h0, hd, hl => by
    have e : i = n := by omega
    subst e
    simp only [idxF, List.append_nil]
    exact h3 out hl
  | d + 1, i, out, h0, hd, hl => by
    unfold idxF
    cases hp : p i with
    | true =>
      refine h1 i out h0 (by omega) hl hp _ ?_
      have := ev_filter h1 h2 h3 d (i + 1) (out ++ [i]) (by omega) (by omega) (by simp; omega)
      simpa using this
    | false =>
      refine h2 i out h0 (by omega) hl hp _ ?_
      have := ev_filter h1 h2 h3 d (i + 1) out (by omega) (by omega) (by omega)
      simpa using this
theorem rd_mem {l : List Int} {i : Int} (h0 : 0 ≤ i) (h1 : i < l.length) : rd l i ∈ l := by
  have hlt : i.toNat < l.length := by omega
  have e : rd l i = l[i.toNat] := by
    show l.getD i.toNat _ = _
    rw [List.getD_eq_getElem?_getD, List.getElem?_eq_getElem hlt]
    rfl
  rw [e]
  exact List.getElem_mem hlt
/-- A source of drawn numbers. -/
def Src (c : List Int) (a s : Int) : Prop := (0 ≤ a ∧ a ≤ c.length ∧ c.length ≤ 4096) ∧ (0 ≤ s ∧ s < 2147483647) ∧ ∀ x ∈ c, 0 ≤ x ∧ x ≤ 255
theorem next_some {c : List Int} {a s : Int} (h : Src c a s) (n : Int) (hn : n ≤ 1000000000000) : ∃ v a' s', spec_l01Next.f c a s n = some (v, a', s') ∧ Src c a' s' ∧ 0 ≤ v ∧ (v < n ∨ v = 0) := by
  have ha := h.1
  have hs := h.2.1
  unfold spec_l01Next.f
  by_cases c1 : n ≤ 1
  · rw [if_pos c1]
    exact ⟨0, a, s, rfl, h, by omega, .inr rfl⟩
  · rw [if_neg c1]
    have w1 : wrap64 (wrap64 (s * 48271) + 29) = s * 48271 + 29 := by rw [w64 (n := s * 48271) (by omega), w64 (by omega)]
    obtain ⟨e, he⟩ : ∃ e, Int.tmod (s * 48271 + 29) 2147483647 = e := ⟨_, rfl⟩
    have e0 : 0 ≤ e := he ▸ Int.tmod_nonneg _ (by omega)
    have e1 : e < 2147483647 := he ▸ Int.tmod_lt_of_pos _ (by omega)
    obtain ⟨q, hq⟩ : ∃ q, Int.tdiv e 31 = q := ⟨_, rfl⟩
    have q0 : 0 ≤ q ∧ q ≤ e := by
      rw [← hq, Int.tdiv_eq_ediv_of_nonneg e0]
      omega
    have src : ∀ a' : Int, 0 ≤ a' → a' ≤ (c.length : Int) → Src c a' e := fun a' h0 h1 => ⟨⟨h0, h1, ha.2.2⟩, ⟨e0, e1⟩, h.2.2⟩
    have md : ∀ x, 0 ≤ x → 0 ≤ Int.tmod x n ∧ Int.tmod x n < n := fun x hx => ⟨Int.tmod_nonneg _ hx, Int.tmod_lt_of_pos _ (by omega)⟩
    by_cases c2 : a < c.length
    · have hr := h.2.2 (rd c a) (rd_mem ha.1 c2)
      simp only [w1, he, hq, w64 (n := q) (by omega), if_pos c2, if_pos ha.1, w64 (n := a + 1) (by omega), w64 (n := a + 1 - 1) (by omega), show a + 1 - 1 = a by omega, w64 (n := a) (by omega), w64 (n := rd c a) (by omega), w64 (n := q + rd c a) (by omega), if_neg (show ¬ n = 0 by omega)]
      have m1 := md (rd c a) hr.1
      have m2 := md (q + rd c a) (by omega)
      by_cases c3 : n ≤ 256
      · by_cases c4 : Int.tmod (a + 1) 2 = 0
        · simp only [if_pos c3, if_pos c4]
          exact ⟨_, a + 1, e, rfl, src (a + 1) (by omega) (by omega), m1.1, .inl m1.2⟩
        · simp only [if_pos c3, if_neg c4]
          exact ⟨_, a + 1, e, rfl, src (a + 1) (by omega) (by omega), m2.1, .inl m2.2⟩
      · simp only [if_neg c3]
        exact ⟨_, a + 1, e, rfl, src (a + 1) (by omega) (by omega), m2.1, .inl m2.2⟩
    · have m3 := md q q0.1
      simp only [w1, he, hq, w64 (n := q) (by omega), if_neg c2, if_neg (show ¬ n = 0 by omega)]
      exact ⟨_, a, e, rfl, src a ha.1 ha.2.1, m3.1, .inl m3.2⟩
theorem pick_some {c : List Int} {a s : Int} (h : Src c a s) (l : List Int) (h1 : 1 ≤ l.length) (h2 : l.length ≤ 1000) : ∃ v a' s', spec_l01Pick.f c a s l = some (v, a', s') ∧ Src c a' s' ∧ v ∈ l := by
  obtain ⟨v, a', s', e, hs, h0, hv⟩ := next_some h l.length (by omega)
  refine ⟨rd l v, a', s', ?_, hs, rd_mem h0 (by omega)⟩
  unfold spec_l01Pick.f
  rw [e]
  simp only [Option.bind_some]
  rw [if_pos h0, if_pos (by omega)]
theorem from_l0 (c : List Int) (hc : c.length ≤ 4096) (hb : ∀ x ∈ c, 0 ≤ x ∧ x ≤ 255) : ∀ (d : Nat) (i s : Int), 0 ≤ i → i + d = c.length → 0 ≤ s → s < 2147483647 → ∃ s', Ev (fun k => spec_l01From.l0 k c i c 0 s) (c, 0, s') ∧ Src c 0 s'
  | 0, i, s, h0, hd, s0, s1 => by
    refine ⟨s, Ev_shift ?_, ⟨by omega, by omega, hc⟩, ⟨s0, s1⟩, hb⟩
    simp only [spec_l01From.l0, if_neg (show ¬ i < (c.length : Int) by omega)]
    exact Ev.now _
  | d + 1, i, s, h0, hd, s0, s1 => by
    have hi : i < (c.length : Int) := by omega
    have hr := hb (rd c i) (rd_mem h0 hi)
    by_cases c2 : i < 64
    · obtain ⟨s', e, hs⟩ := from_l0 c hc hb d (i + 1) (Int.tmod (s * 83 + rd c i) 2147483647) (by omega) (by omega) (Int.tmod_nonneg _ (by omega)) (Int.tmod_lt_of_pos _ (by omega))
      refine ⟨s', Ev_shift ?_, hs⟩
      simp only [spec_l01From.l0, if_pos hi, if_pos c2, if_pos h0, w64 (n := i + 1) (by omega), w64 (n := s * 83) (by omega), w64 (n := rd c i) (by omega), w64 (n := s * 83 + rd c i) (by omega)]
      exact e
    · refine ⟨s, Ev_shift ?_, ⟨by omega, by omega, hc⟩, ⟨s0, s1⟩, hb⟩
      simp only [spec_l01From.l0, if_pos hi, if_neg c2]
      exact Ev.now _
theorem from_ev (c : List Int) (hc : c.length ≤ 4096) (hb : ∀ x ∈ c, 0 ≤ x ∧ x ≤ 255) : ∃ s, Ev (fun k => spec_l01From.f k c) (c, 0, s) ∧ Src c 0 s := by
  unfold spec_l01From.f
  exact from_l0 c hc hb c.length 0 61043 (by omega) (by omega) (by omega) (by omega)
theorem u8_rng {l : List Int} (h : ∀ x ∈ l, (Lit.int .u8 x).wf = true) : ∀ x ∈ l, 0 ≤ x ∧ x ≤ 255 := by
  intro x hx
  have := h x hx
  simp only [Lit.wf, Bool.and_eq_true, decide_eq_true_eq] at this
  have h1 : IntKind.min .u8 = 0 := by decide
  have h2 : IntKind.max .u8 = 255 := by decide
  rw [h1, h2] at this
  exact this
theorem hasInt_l0 (l : List Int) (hn : l.length ≤ 1000000) (x : Int) : ∀ (s : List Int) (i : Int), 0 ≤ i → l.drop i.toNat = s → x ∈ s → Ev (fun k => laws_hasInt.l0 k l x i) true
  | [], i, h0, h, hx => by simp at hx
  | a :: s, i, h0, h, hx => by
    refine Ev_shift ?_
    obtain ⟨h1, h2, h3⟩ := drop_cons 0 h0 h
    have h2' : rd l i = a := h2
    by_cases e : a = x
    · simp only [laws_hasInt.l0, if_pos h1, if_pos h0, h2', if_pos e]
      exact Ev.now _
    · simp only [laws_hasInt.l0, if_pos h1, if_pos h0, h2', if_neg e, w64 (n := i + 1) (by omega)]
      exact hasInt_l0 l hn x s (i + 1) (by omega) h3 (by
        rcases List.mem_cons.1 hx with rfl | hx
        · exact absurd rfl e
        · exact hx)
theorem hasInt_ev (l : List Int) (hn : l.length ≤ 1000000) (x : Int) (hx : x ∈ l) : Ev (fun k => laws_hasInt.f k l x) true := by
  unfold laws_hasInt.f
  exact hasInt_l0 l hn x l 0 (by omega) rfl hx
/-- A module's own numbers are right at its place. -/
def PM (l : List S47) (i : Int) : Prop := 0 ≤ (rd_T47 l i).f1 ∧ (rd_T47 l i).f1 ≤ 32 ∧ (i = 0 → (rd_T47 l i).f0 = -1) ∧ (0 < i → 0 ≤ (rd_T47 l i).f0 ∧ (rd_T47 l i).f0 ≤ i - 1)
def PMods (l : List S47) : Prop := 1 ≤ l.length ∧ l.length ≤ 12 ∧ ∀ j : Int, 0 ≤ j → j < l.length → PM l j
theorem spec_AreModules_ev (l : List S47) (hn : l.length ≤ 140737488351232) : Ev (fun k => spec_AreModules.f k l) (tt (PMods l)) := by
  unfold spec_AreModules.f
  have := ev_all (L := fun i k => spec_AreModules.l0 k l i) (P := PM l) (n := l.length) (fin := decide (1 ≤ l.length ∧ l.length ≤ 12)) (fun i h0 h1 hp r hr => ?_) (fun i h0 h1 hp => ?_) ?_ l.length 0 (by omega) (by omega)
  · refine Ev_eq this ?_
    rw [← tt_dec, tt_and]
    exact tt_iff ⟨fun h => ⟨h.1.1, h.1.2, fun j h0 h1 => h.2 j h0 h1⟩, fun h => ⟨⟨h.1, h.2.1⟩, fun j h0 h1 => h.2.2 j h0 h1⟩⟩
  · refine Ev_shift ?_
    unfold PM at hp
    simp only [spec_AreModules.l0, if_pos h1, if_pos h0, l01In_eq, Option.bind_some]
    simp only [decide_eq_true_eq]
    simp only [if_pos (And.intro hp.1 hp.2.1)]
    rw [w64 (n := i + 1) (by omega)]
    by_cases h : i = 0
    · simp only [if_pos h, if_pos (hp.2.2.1 h), if_neg (show ¬ i > 0 by omega)]
      exact hr
    · simp only [if_neg h, if_pos (show i > 0 by omega), w64 (n := i - 1) (by omega)]
      have := hp.2.2.2 (by omega)
      simp only [if_pos this]
      exact hr
  · refine Ev_shift ?_
    unfold PM at hp
    simp only [spec_AreModules.l0, if_pos h1, if_pos h0, l01In_eq, Option.bind_some]
    simp only [decide_eq_true_eq]
    by_cases hq : 0 ≤ (rd_T47 l i).f1 ∧ (rd_T47 l i).f1 ≤ 32
    · simp only [if_pos hq]
      by_cases h : i = 0
      · by_cases h2 : (rd_T47 l i).f0 = -1
        · exact absurd ⟨hq.1, hq.2, fun _ => h2, fun h => by omega⟩ hp
        · simp only [if_pos h, if_neg h2]
          exact Ev.now _
      · simp only [if_neg h, if_pos (show i > 0 by omega), w64 (n := i - 1) (by omega)]
        by_cases h2 : 0 ≤ (rd_T47 l i).f0 ∧ (rd_T47 l i).f0 ≤ i - 1
        · exact absurd ⟨hq.1, hq.2, fun h => by omega, fun _ => h2⟩ hp
        · simp only [if_neg h2]
          exact Ev.now _
    · simp only [if_neg hq]
      exact Ev.now _
  · refine Ev_shift ?_
    simp only [spec_AreModules.l0, if_neg (show ¬ (l.length : Int) < l.length by omega), l01In_eq, Option.bind_some]
    exact Ev_some (by congr 1; exact propext ⟨fun h => by omega, fun h => by omega⟩)
theorem impl_AreModules_l0 (l : List S47) (hn : l.length ≤ 140737488351232) (hz : (rd_T47 l 0).f0 = -1) : Ev (fun k => impl_AreModules.l0 k l l.length 0) (tt (∀ j : Int, 0 ≤ j → j < l.length → PM l j)) := by
  have := ev_all (L := fun i k => impl_AreModules.l0 k l l.length i) (P := PM l) (n := l.length) (fin := true) (fun i h0 h1 hp r hr => ?_) (fun i h0 h1 hp => ?_) ?_ l.length 0 (by omega) (by omega)
  · refine Ev_eq this ?_
    rw [Bool.true_and]
  · refine Ev_shift ?_
    unfold PM at hp
    simp only [impl_AreModules.l0, if_pos h1, if_pos h0, within_eq, Option.bind_some]
    simp only [decide_eq_true_eq]
    simp only [if_pos (And.intro hp.1 hp.2.1)]
    rw [w64 (n := i + 1) (by omega)]
    by_cases h : i = 0
    · simp only [if_neg (show ¬ i > 0 by omega)]
      exact hr
    · simp only [if_pos (show i > 0 by omega), w64 (n := i - 1) (by omega)]
      have := hp.2.2.2 (by omega)
      simp only [if_pos this]
      exact hr
  · refine Ev_shift ?_
    unfold PM at hp
    simp only [impl_AreModules.l0, if_pos h1, if_pos h0, within_eq, Option.bind_some]
    simp only [decide_eq_true_eq]
    by_cases hq : 0 ≤ (rd_T47 l i).f1 ∧ (rd_T47 l i).f1 ≤ 32
    · simp only [if_pos hq]
      by_cases h : i = 0
      · exact absurd ⟨hq.1, hq.2, fun h => by rw [h]; exact hz, fun h => by omega⟩ hp
      · simp only [if_pos (show i > 0 by omega), w64 (n := i - 1) (by omega)]
        by_cases h2 : 0 ≤ (rd_T47 l i).f0 ∧ (rd_T47 l i).f0 ≤ i - 1
        · exact absurd ⟨hq.1, hq.2, fun h => by omega, fun _ => h2⟩ hp
        · simp only [if_neg h2]
          exact Ev.now _
    · simp only [if_neg hq]
      exact Ev.now _
  · refine Ev_shift ?_
    simp only [impl_AreModules.l0, if_neg (show ¬ (l.length : Int) < l.length by omega)]
    exact Ev.now _
theorem impl_AreModules_ev (l : List S47) (hn : l.length ≤ 140737488351232) : Ev (fun k => impl_AreModules.f k l) (tt (PMods l)) := by
  unfold impl_AreModules.f
  have bad : ∀ {q : Prop}, ¬ q → (q ↔ PMods l) → Ev (fun k => impl_AreModules.j0 k l true) (tt (PMods l)) := by
    intro q hq e
    refine Ev_shift ?_
    simp only [impl_AreModules.j0, if_true]
    exact Ev_some (tt_neg (fun h => hq (e.2 h))).symm
  by_cases h1 : (l.length : Int) < 1
  · simp only [if_pos h1]
    exact bad (q := False) (fun h => h) ⟨fun h => h.elim, fun h => by have := h.1; omega⟩
  · simp only [if_neg h1]
    by_cases h2 : (l.length : Int) > 12
    · simp only [if_pos h2]
      exact bad (q := False) (fun h => h) ⟨fun h => h.elim, fun h => by have := h.2.1; omega⟩
    · simp only [if_neg h2, if_pos (show 0 < (l.length : Int) by omega)]
      by_cases hz : (rd_T47 l 0).f0 = -1
      · rw [hz]
        refine Ev_shift ?_
        simp only [impl_AreModules.j0, bne_self_eq_false, Bool.false_eq_true, if_false]
        refine Ev_eq (impl_AreModules_l0 l hn hz) (tt_iff ⟨fun h => ⟨by omega, by omega, h⟩, fun h => h.2.2⟩)
      · have e : ((rd_T47 l 0).f0 != -1) = true := by simpa using hz
        rw [e]
        exact bad (q := False) (fun h => h) ⟨fun h => h.elim, fun h => hz ((h.2.2 0 (by omega) (by omega)).2.2.1 rfl)⟩
theorem parent_lt {l : List S47} (h : PMods l) {m : Int} (h0 : 0 ≤ m) (h1 : m < l.length) : -1 ≤ (rd_T47 l m).f0 ∧ (rd_T47 l m).f0 < m := by
  have := h.2.2 m h0 h1
  unfold PM at this
  by_cases e : m = 0
  · have := this.2.2.1 e
    omega
  · have := this.2.2.2 (by omega)
    omega
/-- A module and all above it. -/
def wayF (l : List S47) : Nat → Int → List Int
  | 0, _ => []
  | n + 1, m => if 0 ≤ m then m :: wayF l n (rd_T47 l m).f0 else []
theorem wayF_length (l : List S47) : ∀ (n : Nat) (m : Int), (wayF l n m).length ≤ n
  | 0, _ => Nat.le_refl _
  | n + 1, m => by
    unfold wayF
    split
    · simp only [List.length_cons]
      have := wayF_length l n (rd_T47 l m).f0
      omega
    · simp
theorem spec_way_l0 {l : List S47} (h : PMods l) : ∀ (n : Nat) (m : Int) (out : List Int), -1 ≤ m → m < l.length → m + 1 ≤ n → out.length + n ≤ 1000 → Ev (fun k => spec_l12Way.l0 k l m out) (out ++ wayF l n m)
  | 0, m, out, h0, h1, h2, h3 => by
    refine Ev_shift ?_
    simp only [spec_l12Way.l0, if_neg (show ¬ m ≥ 0 by omega)]
    exact Ev_some (by simp [wayF])
  | n + 1, m, out, h0, h1, h2, h3 => by
    refine Ev_shift ?_
    by_cases hm : m ≥ 0
    · have hp := parent_lt h hm h1
      simp only [spec_l12Way.l0, if_pos hm, if_pos (show out.length < 17592186044416 by omega), if_pos (show 0 ≤ m from hm), if_pos h1]
      refine Ev_eq (spec_way_l0 h n _ (out ++ [m]) hp.1 (by omega) (by omega) (by simp; omega)) ?_
      simp [wayF, hm]
    · simp only [spec_l12Way.l0, if_neg hm]
      exact Ev_some (by simp [wayF, show ¬ 0 ≤ m from hm])
theorem spec_way {l : List S47} (h : PMods l) {m : Int} (h0 : 0 ≤ m) (h1 : m < l.length) : Ev (fun k => spec_l12Way.f k l m) (wayF l 12 m) := by
  unfold spec_l12Way.f
  have := h.2.1
  exact spec_way_l0 h 12 m [] (by omega) h1 (by omega) (by simp)
theorem impl_way_l0 {l : List S47} (h : PMods l) : ∀ (n : Nat) (m : Int) (out : List Int), -1 ≤ m → m < l.length → m + 1 ≤ n → out.length + n ≤ 1000 → Ev (fun k => impl_wayToMaster.l0 k l m out) (out ++ wayF l n m)
  | 0, m, out, h0, h1, h2, h3 => by
    refine Ev_shift ?_
    simp only [impl_wayToMaster.l0, if_neg (show ¬ m ≥ 0 by omega)]
    exact Ev_some (by simp [wayF])
  | n + 1, m, out, h0, h1, h2, h3 => by
    refine Ev_shift ?_
    by_cases hm : m ≥ 0
    · have hp := parent_lt h hm h1
      simp only [impl_wayToMaster.l0, if_pos hm, if_pos (show out.length < 17592186044416 by omega), if_pos (show 0 ≤ m from hm), if_pos h1]
      refine Ev_eq (impl_way_l0 h n _ (out ++ [m]) hp.1 (by omega) (by omega) (by simp; omega)) ?_
      simp [wayF, hm]
    · simp only [impl_wayToMaster.l0, if_neg hm]
      exact Ev_some (by simp [wayF, show ¬ 0 ≤ m from hm])
theorem impl_way {l : List S47} (h : PMods l) {m : Int} (h0 : 0 ≤ m) (h1 : m < l.length) : Ev (fun k => impl_wayToMaster.f k l m) (wayF l 12 m) := by
  unfold impl_wayToMaster.f
  have := h.2.1
  exact impl_way_l0 h 12 m [] (by omega) h1 (by omega) (by simp)
theorem spec_l12Code_ev (l : List S47) (hn : l.length ≤ 140737488351232) (m : Int) : (PMods l → 0 ≤ m → m < l.length → Ev (fun k => spec_l12Code.f k l m) 0) ∧ (PMods l → ¬ (0 ≤ m ∧ m < l.length) → Ev (fun k => spec_l12Code.f k l m) 2) ∧ (¬ PMods l → Ev (fun k => spec_l12Code.f k l m) 1) := by
  unfold spec_l12Code.f
  have w : wrap64 ((l.length : Int) - 1) = (l.length : Int) - 1 := w64 (by omega)
  refine ⟨fun h h0 h1 => ?_, fun h hm => ?_, fun h => ?_⟩
  · refine Ev.bind (spec_AreModules_ev l hn) ?_
    simp only [tt_pos h, if_true, w, l01In_eq, Option.bind_some, decide_eq_true_eq, if_pos (show 0 ≤ m ∧ m ≤ (l.length : Int) - 1 by omega)]
    exact Ev.now _
  · refine Ev.bind (spec_AreModules_ev l hn) ?_
    simp only [tt_pos h, if_true, w, l01In_eq, Option.bind_some, decide_eq_true_eq, if_neg (show ¬ (0 ≤ m ∧ m ≤ (l.length : Int) - 1) by omega)]
    exact Ev.now _
  · refine Ev.bind (spec_AreModules_ev l hn) ?_
    simp only [tt_neg h, Bool.false_eq_true, if_false]
    exact Ev.now _
theorem isIndex_eq {a n : Int} (hn : 0 ≤ n ∧ n ≤ 140737488351232) : impl_isIndex.f a n = some (decide (0 ≤ a ∧ a < n)) := by
  unfold impl_isIndex.f
  rw [w64 (by omega), within_eq, Option.bind_some]
  congr 1
  exact decide_eq_decide.2 ⟨fun h => by omega, fun h => by omega⟩
theorem asked_l0 (l : List S47) (hn : l.length ≤ 140737488351232) (xs : List Int) (hx : xs.length ≤ 140737488351232) : ∀ (s : List Int) (i : Int), 0 ≤ i → xs.drop i.toNat = s → Ev (fun k => impl_moduleAsked.l0 k l xs xs.length i) (if ∀ x ∈ s, 0 ≤ x ∧ x < (l.length : Int) then 0 else 2)
  | [], i, h0, h => by
    refine Ev_shift ?_
    simp only [impl_moduleAsked.l0, if_neg (drop_nil h0 h)]
    exact Ev_some (by simp)
  | a :: s, i, h0, h => by
    refine Ev_shift ?_
    obtain ⟨h1, h2, h3⟩ := drop_cons 0 h0 h
    have h2' : rd xs i = a := h2
    simp only [impl_moduleAsked.l0, if_pos h1, if_pos h0, h2', isIndex_eq (n := (l.length : Int)) (by omega), Option.bind_some, decide_eq_true_eq, w64 (n := i + 1) (by omega)]
    by_cases c : 0 ≤ a ∧ a < (l.length : Int)
    · simp only [if_pos c]
      refine Ev_eq (asked_l0 l hn xs hx s (i + 1) (by omega) h3) ?_
      simp only [List.mem_cons, forall_eq_or_imp, c, true_and]
    · simp only [if_neg c]
      refine Ev_some ?_
      rw [if_neg (fun hh => c (hh a (by simp)))]
theorem impl_moduleAsked_ev (l : List S47) (hn : l.length ≤ 140737488351232) (xs : List Int) (hx : xs.length ≤ 140737488351232) : (PMods l → (∀ x ∈ xs, 0 ≤ x ∧ x < (l.length : Int)) → Ev (fun k => impl_moduleAsked.f k l xs) 0) ∧ (PMods l → ¬ (∀ x ∈ xs, 0 ≤ x ∧ x < (l.length : Int)) → Ev (fun k => impl_moduleAsked.f k l xs) 2) ∧ (¬ PMods l → Ev (fun k => impl_moduleAsked.f k l xs) 1) := by
  unfold impl_moduleAsked.f
  have h0 := asked_l0 l hn xs hx xs 0 (by omega) rfl
  refine ⟨fun h hm => ?_, fun h hm => ?_, fun h => ?_⟩
  · refine Ev.bind (impl_AreModules_ev l hn) ?_
    simp only [tt_pos h, if_true]
    exact Ev_eq h0 (if_pos hm)
  · refine Ev.bind (impl_AreModules_ev l hn) ?_
    simp only [tt_pos h, if_true]
    exact Ev_eq h0 (if_neg hm)
  · refine Ev.bind (impl_AreModules_ev l hn) ?_
    simp only [tt_neg h, Bool.false_eq_true, if_false]
    exact Ev.now _
/-- The first module on both ways. -/
def meetF (l : List S47) : Nat → Int → Int → Int
  | 0, a, _ => a
  | n + 1, a, b => if a = b then a else if a > b then meetF l n (rd_T47 l a).f0 b else meetF l n a (rd_T47 l b).f0
theorem meetF_succ (l : List S47) (n : Nat) (a b : Int) : meetF l (n + 1) a b = if a = b then a else if a > b then meetF l n (rd_T47 l a).f0 b else meetF l n a (rd_T47 l b).f0 := rfl
theorem way_le {l : List S47} (h : PMods l) : ∀ (n : Nat) (m x : Int), -1 ≤ m → m < l.length → x ∈ wayF l n m → 0 ≤ x ∧ x ≤ m
  | 0, m, x, h0, h1, hx => by simp [wayF] at hx
  | n + 1, m, x, h0, h1, hx => by
    unfold wayF at hx
    split at hx
    · rename_i hm
      have hp := parent_lt h hm h1
      rcases List.mem_cons.1 hx with e | hx
      · omega
      · have := way_le h n _ x hp.1 (by omega) hx
        omega
    · simp at hx
theorem way_mem_step {l : List S47} (h : PMods l) {n : Nat} {m x : Int} (h0 : 0 ≤ m) (h1 : m < l.length) : x ∈ wayF l (n + 1) m ↔ x = m ∨ x ∈ wayF l n (rd_T47 l m).f0 := by
  show x ∈ (if 0 ≤ m then m :: wayF l n (rd_T47 l m).f0 else []) ↔ _
  rw [if_pos h0]
  simp
theorem way_more {l : List S47} (h : PMods l) : ∀ (n k : Nat) (m : Int), -1 ≤ m → m < l.length → m + 1 ≤ n → n ≤ k → wayF l k m = wayF l n m
  | 0, 0, m, _, _, _, _ => rfl
  | 0, k + 1, m, h0, h1, h2, h3 => by
    unfold wayF
    rw [if_neg (by omega)]
  | n + 1, 0, m, h0, h1, h2, h3 => by omega
  | n + 1, k + 1, m, h0, h1, h2, h3 => by
    unfold wayF
    split
    · rename_i hm
      have hp := parent_lt h hm h1
      rw [way_more h n k _ hp.1 (by omega) (by omega) (by omega)]
    · rfl
theorem zero_mem {l : List S47} (h : PMods l) : ∀ (n : Nat) (m : Int), 0 ≤ m → m < l.length → m + 1 ≤ n → 0 ∈ wayF l n m
  | 0, m, h0, h1, h2 => by omega
  | n + 1, m, h0, h1, h2 => by
    rw [way_mem_step h h0 h1]
    by_cases e : m = 0
    · exact .inl e.symm
    · have hp := h.2.2 m h0 h1
      unfold PM at hp
      have := hp.2.2.2 (by omega)
      exact .inr (zero_mem h n _ this.1 (by omega) (by omega))
/-- Where the first is on the second's way, there they meet; else the first goes up. -/
theorem meet_way {l : List S47} (h : PMods l) : ∀ (n : Nat) (a b : Int), 0 ≤ a → a < l.length → 0 ≤ b → b < l.length → a + b + 1 ≤ n →
    (a ∈ wayF l 12 b → meetF l n a b = a) ∧ (a ∉ wayF l 12 b → 0 < a ∧ meetF l n a b = meetF l (n - 1) (rd_T47 l a).f0 b)
  | 0, a, b, a0, a1, b0, b1, hn => by omega
  | n + 1, a, b, a0, a1, b0, b1, hn => by
    have hl := h.2.1
    have hz := zero_mem h 12 b b0 b1 (by omega)
    have hw : ∀ x, x ∈ wayF l 12 b ↔ x = b ∨ x ∈ wayF l 12 (rd_T47 l b).f0 := by
      intro x
      have hp := parent_lt h b0 b1
      rw [way_more h 12 13 (rd_T47 l b).f0 hp.1 (by omega) (by omega) (by omega) |>.symm, ← way_more h 12 14 b (by omega) b1 (by omega) (by omega)]
      exact way_mem_step h b0 b1
    rw [meetF_succ l n a b]
    by_cases e : a = b
    · rw [if_pos e]
      exact ⟨fun _ => rfl, fun hm => absurd ((hw a).2 (.inl e)) hm⟩
    · rw [if_neg e]
      by_cases g : a > b
      · rw [if_pos g]
        refine ⟨fun hm => ?_, fun hm => ⟨by omega, by simp⟩⟩
        have := way_le h 12 b a (by omega) b1 hm
        omega
      · rw [if_neg g]
        have hp := parent_lt h b0 b1
        have hq := (h.2.2 b b0 b1).2.2.2 (by omega)
        have ih := meet_way h n a (rd_T47 l b).f0 a0 a1 hq.1 (by omega) (by omega)
        refine ⟨fun hm => ih.1 (((hw a).1 hm).resolve_left e), fun hm => ?_⟩
        have hm' : a ∉ wayF l 12 (rd_T47 l b).f0 := fun hx => hm ((hw a).2 (.inr hx))
        obtain ⟨ha, e2⟩ := ih.2 hm'
        refine ⟨ha, ?_⟩
        rw [e2]
        have pa := parent_lt h a0 a1
        simp only [Nat.add_sub_cancel]
        obtain ⟨n', rfl⟩ : ∃ m, n = m + 1 := ⟨n - 1, by omega⟩
        simp only [Nat.add_sub_cancel]
        rw [meetF_succ l n' _ b, if_neg (by omega), if_neg (by omega)]
theorem impl_meet {l : List S47} (h : PMods l) : ∀ (n : Nat) (a b : Int), 0 ≤ a → a < l.length → 0 ≤ b → b < l.length → a + b + 1 ≤ n → Ev (fun k => impl_MeetingPoint.l0 k l a b) (meetF l n a b, 0)
  | 0, a, b, a0, a1, b0, b1, hn => by omega
  | n + 1, a, b, a0, a1, b0, b1, hn => by
    refine Ev_shift ?_
    unfold meetF
    by_cases e : a = b
    · simp only [impl_MeetingPoint.l0, if_pos e]
      exact Ev.now _
    · by_cases g : a > b
      · have hq := (h.2.2 a a0 a1).2.2.2 (by omega)
        simp only [impl_MeetingPoint.l0, if_neg e, if_pos g, if_pos a0, if_pos a1]
        exact impl_meet h n _ b hq.1 (by omega) b0 b1 (by omega)
      · have hq := (h.2.2 b b0 b1).2.2.2 (by omega)
        simp only [impl_MeetingPoint.l0, if_neg e, if_neg g, if_pos b0, if_pos b1]
        exact impl_meet h n a _ a0 a1 hq.1 (by omega) (by omega)
theorem has_l0 (l : List Int) (hn : l.length ≤ 140737488351232) (x : Int) : ∀ (s : List Int) (i : Int), 0 ≤ i → l.drop i.toNat = s → Ev (fun k => spec_l01Has.l0 k l x i) (decide (x ∈ s))
  | [], i, h0, h => by
    refine Ev_shift ?_
    simp only [spec_l01Has.l0, if_neg (drop_nil h0 h)]
    exact Ev_some (by simp)
  | a :: s, i, h0, h => by
    refine Ev_shift ?_
    obtain ⟨h1, h2, h3⟩ := drop_cons 0 h0 h
    have h2' : rd l i = a := h2
    by_cases e : a = x
    · simp only [spec_l01Has.l0, if_pos h1, if_pos h0, h2', if_pos e]
      exact Ev_some (by simp [e])
    · simp only [spec_l01Has.l0, if_pos h1, if_pos h0, h2', if_neg e, w64 (n := i + 1) (by omega)]
      refine Ev_eq (has_l0 l hn x s (i + 1) (by omega) h3) ?_
      simp [Ne.symm e]
theorem has_ev (l : List Int) (hn : l.length ≤ 140737488351232) (x : Int) : Ev (fun k => spec_l01Has.f k l x) (decide (x ∈ l)) := by
  unfold spec_l01Has.f
  exact has_l0 l hn x l 0 (by omega) rfl
theorem spec_meet {l : List S47} (h : PMods l) : ∀ (n : Nat) (a b : Int), 0 ≤ a → a < l.length → 0 ≤ b → b < l.length → a + b + 1 ≤ n → Ev (fun k => spec_MeetingPoint.l0 k l a (wayF l 12 b)) (meetF l n a b, 0)
  | 0, a, b, a0, a1, b0, b1, hn => by omega
  | n + 1, a, b, a0, a1, b0, b1, hn => by
    have hm := meet_way h (n + 1) a b a0 a1 b0 b1 hn
    refine Ev_shift ?_
    simp only [spec_MeetingPoint.l0]
    have hwl := wayF_length l 12 b
    by_cases hx : a ∈ wayF l 12 b
    · rw [hm.1 hx]
      refine Ev.bind (has_ev (wayF l 12 b) (by omega) a) ?_
      simp only [decide_eq_true hx, if_true]
      exact Ev.now _
    · obtain ⟨ha, e⟩ := hm.2 hx
      rw [e]
      refine Ev.bind (has_ev (wayF l 12 b) (by omega) a) ?_
      have hq := (h.2.2 a a0 a1).2.2.2 ha
      simp only [decide_eq_false hx, Bool.false_eq_true, if_false, if_pos a0, if_pos a1]
      exact spec_meet h n _ b hq.1 (by omega) b0 b1 (by omega)
/-- Is i the module or below it? -/
def belowP (l : List S47) (m : Int) (i : Int) : Bool := decide (m ∈ wayF l 12 i)
theorem spec_below {l : List S47} (h : PMods l) (m : Int) : Ev (fun k => spec_l12Below.f k l m) (idxF (belowP l m) l.length 0) := by
  unfold spec_l12Below.f
  have hl := h.2.1
  have := ev_filter (L := fun i out k => spec_l12Below.l0 k l m out i) (p := belowP l m) (n := l.length) (fin := fun out => out)
    (fun i out h0 h1 h2 hp r hr => by
      refine Ev_shift ?_
      simp only [spec_l12Below.l0, if_pos h1]
      refine Ev.bind (spec_way h h0 h1) ?_
      refine Ev.bind (has_ev (wayF l 12 i) (by have := wayF_length l 12 i; omega) m) ?_
      have hp' : decide (m ∈ wayF l 12 i) = true := hp
      simp only [hp', if_true, if_pos (show out.length < 17592186044416 by omega), w64 (n := i + 1) (by omega)]
      exact hr)
    (fun i out h0 h1 h2 hp r hr => by
      refine Ev_shift ?_
      simp only [spec_l12Below.l0, if_pos h1]
      refine Ev.bind (spec_way h h0 h1) ?_
      refine Ev.bind (has_ev (wayF l 12 i) (by have := wayF_length l 12 i; omega) m) ?_
      have hp' : decide (m ∈ wayF l 12 i) = false := hp
      simp only [hp', Bool.false_eq_true, if_false, w64 (n := i + 1) (by omega)]
      exact hr)
    (fun out h2 => by
      refine Ev_shift ?_
      simp only [spec_l12Below.l0, if_neg (show ¬ (l.length : Int) < l.length by omega)]
      exact Ev.now _) l.length 0 [] (by omega) (by omega) (by simp)
  exact this
theorem below_step {l : List S47} (h : PMods l) {m i : Int} (h0 : 0 ≤ i) (h1 : i < l.length) : belowP l m i = (decide (m = i) || (decide (0 ≤ (rd_T47 l i).f0) && belowP l m (rd_T47 l i).f0)) := by
  have hl := h.2.1
  have hp := parent_lt h h0 h1
  unfold belowP
  rw [← way_more h 12 14 i (by omega) h1 (by omega) (by omega), ← way_more h 12 13 (rd_T47 l i).f0 hp.1 (by omega) (by omega) (by omega)]
  have := way_mem_step (n := 13) (x := m) h h0 h1
  by_cases hz : 0 ≤ (rd_T47 l i).f0
  · simp [this, hz]
  · have e : wayF l 13 (rd_T47 l i).f0 = [] := by
      show (if 0 ≤ (rd_T47 l i).f0 then _ else _) = _
      rw [if_neg hz]
    rw [e] at this ⊢
    simp only [this]
    simp [hz]
theorem rdb_set (y : List Bool) (i j : Int) (v : Bool) (h0 : 0 ≤ i) (h1 : i < y.length) (j0 : 0 ≤ j) (j1 : j < y.length) : rdOf false (y.set i.toNat v) j = if j = i then v else rdOf false y j := by
  unfold rdOf
  rw [List.getD_eq_getElem?_getD, List.getD_eq_getElem?_getD, List.getElem?_set]
  by_cases e : j = i
  · subst e
    rw [if_pos rfl, if_pos rfl, if_pos (by omega)]
    rfl
  · rw [if_neg (by omega), if_neg e]
theorem impl_below_l0 {l : List S47} (h : PMods l) (m : Int) : ∀ (d : Nat) (i : Int) (y : List Bool), 0 ≤ i → i + d = l.length → y.length = l.length → (∀ j : Int, 0 ≤ j → j < l.length → rdOf false y j = if j < i then belowP l m j else decide (m = j)) →
    ∃ y', y'.length = l.length ∧ (∀ j : Int, 0 ≤ j → j < l.length → rdOf false y' j = belowP l m j) ∧ Ev (fun k => impl_isBelow.l0 k y l l.length i) y'
  | 0, i, y, h0, hd, hy, hj => by
    refine ⟨y, hy, fun j j0 j1 => ?_, Ev_shift ?_⟩
    · rw [hj j j0 j1, if_pos (by omega)]
    · simp only [impl_isBelow.l0, if_neg (show ¬ i < (l.length : Int) by omega)]
      exact Ev.now _
  | d + 1, i, y, h0, hd, hy, hj => by
    have hl := h.2.1
    have h1 : i < (l.length : Int) := by omega
    have hp := parent_lt h h0 h1
    have hb := below_step (m := m) h h0 h1
    have w := w64 (n := i + 1) (by omega)
    by_cases hz : (rd_T47 l i).f0 ≥ 0
    · have hpy := hj (rd_T47 l i).f0 hz (by omega)
      rw [if_pos (by omega)] at hpy
      by_cases hbp : belowP l m (rd_T47 l i).f0 = true
      · obtain ⟨y', a, b, c⟩ := impl_below_l0 h m d (i + 1) (y.set i.toNat true) (by omega) (by omega) (by simpa using hy) (fun j j0 j1 => by
          rw [rdb_set y i j true h0 (by omega) j0 (by omega)]
          by_cases e : j = i
          · rw [if_pos e, if_pos (by omega), e, hb, hbp]
            simp [show 0 ≤ (rd_T47 l i).f0 from hz]
          · rw [if_neg e, hj j j0 j1]
            by_cases g : j < i
            · rw [if_pos g, if_pos (by omega)]
            · rw [if_neg g, if_neg (by omega)])
        refine ⟨y', a, b, Ev_shift ?_⟩
        simp only [impl_isBelow.l0, if_pos h1, if_pos h0, if_pos hz, if_pos (show 0 ≤ (rd_T47 l i).f0 from hz), if_pos (show (rd_T47 l i).f0 < (y.length : Int) by omega), hpy, hbp, if_true, if_pos (show i < (y.length : Int) by omega), w]
        exact c
      · have hbp' : belowP l m (rd_T47 l i).f0 = false := by simpa using hbp
        obtain ⟨y', a, b, c⟩ := impl_below_l0 h m d (i + 1) y (by omega) (by omega) hy (fun j j0 j1 => by
          rw [hj j j0 j1]
          by_cases e : j = i
          · rw [if_neg (by omega), if_pos (by omega), e, hb, hbp']
            simp
          · by_cases g : j < i
            · rw [if_pos g, if_pos (by omega)]
            · rw [if_neg g, if_neg (by omega)])
        refine ⟨y', a, b, Ev_shift ?_⟩
        simp only [impl_isBelow.l0, if_pos h1, if_pos h0, if_pos hz, if_pos (show 0 ≤ (rd_T47 l i).f0 from hz), if_pos (show (rd_T47 l i).f0 < (y.length : Int) by omega), hpy, hbp', Bool.false_eq_true, if_false, w]
        exact c
    · obtain ⟨y', a, b, c⟩ := impl_below_l0 h m d (i + 1) y (by omega) (by omega) hy (fun j j0 j1 => by
        rw [hj j j0 j1]
        by_cases e : j = i
        · rw [if_neg (by omega), if_pos (by omega), e, hb]
          simp [show ¬ 0 ≤ (rd_T47 l i).f0 from hz]
        · by_cases g : j < i
          · rw [if_pos g, if_pos (by omega)]
          · rw [if_neg g, if_neg (by omega)])
      refine ⟨y', a, b, Ev_shift ?_⟩
      simp only [impl_isBelow.l0, if_pos h1, if_pos h0, if_neg hz, w]
      exact c
theorem impl_below {l : List S47} (h : PMods l) {m : Int} (m0 : 0 ≤ m) (m1 : m < l.length) : ∃ y : List Bool, y.length = l.length ∧ (∀ j : Int, 0 ≤ j → j < l.length → rdOf false y j = belowP l m j) ∧ Ev (fun k => impl_isBelow.f k l m) y := by
  have hl := h.2.1
  obtain ⟨y, a, b, c⟩ := impl_below_l0 h m l.length 0 ((List.replicate l.length false).set m.toNat true) (by omega) (by omega) (by simp) (fun j j0 j1 => by
    rw [rdb_set _ m j true m0 (by simp; omega) j0 (by simp; omega), if_neg (show ¬ j < 0 by omega)]
    by_cases e : j = m
    · rw [if_pos e, e]
      simp
    · rw [if_neg e, decide_eq_false (fun hh => e hh.symm)]
      unfold rdOf
      rw [List.getD_eq_getElem?_getD, List.getElem?_replicate]
      split <;> rfl)
  refine ⟨y, a, b, ?_⟩
  unfold impl_isBelow.f
  simp only [if_pos (show 0 ≤ (l.length : Int) by omega), Int.toNat_natCast, if_pos (show l.length ≤ 281474976710656 by omega), Option.bind_some, if_pos m0, if_pos (show m < ((List.replicate l.length false).length : Int) by simp; omega)]
  exact c
theorem idxF_mem (p : Int → Bool) : ∀ (d : Nat) (i x : Int), x ∈ idxF p d i ↔ i ≤ x ∧ x < i + d ∧ p x = true
  | 0, i, x => by simp [idxF]; omega
  | d + 1, i, x => by
    unfold idxF
    have ih := idxF_mem p d (i + 1) x
    by_cases hp : p i = true
    · rw [if_pos hp, List.mem_cons, ih]
      constructor
      · rintro (rfl | h)
        · exact ⟨by omega, by omega, hp⟩
        · exact ⟨by omega, by omega, h.2.2⟩
      · rintro ⟨a, b, c⟩
        by_cases e : x = i
        · exact .inl e
        · exact .inr ⟨by omega, by omega, c⟩
    · rw [if_neg hp, ih]
      constructor
      · rintro ⟨a, b, c⟩
        exact ⟨by omega, by omega, c⟩
      · rintro ⟨a, b, c⟩
        by_cases e : x = i
        · rw [e] at c
          exact absurd c hp
        · exact ⟨by omega, by omega, c⟩
/-- How many of the first numbers aren't told true. -/
def cntB (b : Int → Bool) : Nat → Int
  | 0 => 0
  | n + 1 => cntB b n + (if b n = true then 0 else 1)
theorem cntB_rng (b : Int → Bool) : ∀ n, 0 ≤ cntB b n ∧ cntB b n ≤ n
  | 0 => by simp [cntB]
  | n + 1 => by
    have := cntB_rng b n
    unfold cntB
    split <;> omega
/-- The modules that are left, with new numbers. -/
def dropM (l : List S47) (b : Int → Bool) : Nat → Int → List S47
  | 0, _ => []
  | d + 1, i => if b i = true then dropM l b d (i + 1) else ⟨if 0 ≤ (rd_T47 l i).f0 then cntB b (rd_T47 l i).f0.toNat else (rd_T47 l i).f0, (rd_T47 l i).f1⟩ :: dropM l b d (i + 1)
theorem dropM_length (l : List S47) (b : Int → Bool) : ∀ d i, (dropM l b d i).length ≤ d
  | 0, _ => Nat.le_refl _
  | d + 1, i => by
    have := dropM_length l b d (i + 1)
    unfold dropM
    split
    · omega
    · simp only [List.length_cons]
      omega
theorem spec_drop_l0 {l : List S47} (h : PMods l) (m : Int) : ∀ (d : Nat) (i : Nat) (num : List Int) (out : List S47), i + d = l.length → num.length = i → (∀ j : Nat, j < i → rd num (j : Int) = cntB (belowP l m) j) → (out.length : Int) = cntB (belowP l m) i → Ev (fun k => spec_DropModule.l0 k l (idxF (belowP l m) l.length 0) num out (i : Int)) (out ++ dropM l (belowP l m) d i, 0)
  | 0, i, num, out, hd, hn, hj, ho => by
    refine Ev_shift ?_
    simp only [spec_DropModule.l0, if_neg (show ¬ (i : Int) < l.length by omega), dropM, List.append_nil]
    exact Ev.now _
  | d + 1, i, num, out, hd, hn, hj, ho => by
    have hl := h.2.1
    have hc := cntB_rng (belowP l m) i
    have hlen := idxF_length (belowP l m) l.length 0
    have hi : (i : Int) < l.length := by omega
    have hp := parent_lt h (m := (i : Int)) (by omega) hi
    have hpm := h.2.2 (i : Int) (by omega) hi
    unfold PM at hpm
    have hnew : ∀ j : Nat, j < i + 1 → rd (num ++ [(out.length : Int)]) (j : Int) = cntB (belowP l m) j := fun j hj2 => by
      show List.getD _ _ _ = _
      rw [Int.toNat_natCast, List.getD_eq_getElem?_getD]
      by_cases e : j = i
      · rw [e, List.getElem?_append_right (by omega), hn]
        simpa using ho
      · rw [List.getElem?_append_left (by omega)]
        have := hj j (by omega)
        rw [← this]
        show _ = List.getD _ _ _
        rw [Int.toNat_natCast, List.getD_eq_getElem?_getD]
    have e1 : ((i : Int) + 1) = ((i + 1 : Nat) : Int) := by omega
    refine Ev_shift ?_
    simp only [spec_DropModule.l0, if_pos hi, if_pos (show num.length < 17592186044416 by omega), Option.bind_some]
    refine Ev.bind (has_ev _ (by omega) (i : Int)) ?_
    rw [show decide ((i : Int) ∈ idxF (belowP l m) l.length 0) = belowP l m i by
      by_cases c : belowP l m i = true
      · rw [c, decide_eq_true ((idxF_mem _ _ _ _).2 ⟨by omega, by omega, c⟩)]
      · rw [show belowP l m i = false by simpa using c, decide_eq_false (fun hx => c ((idxF_mem _ _ _ _).1 hx).2.2)]]
    unfold dropM
    simp only [w64 (n := (i : Int) + 1) (by omega), w64 (n := ((i + 1 : Nat) : Int)) (by omega), e1]
    by_cases c : belowP l m i = true
    · simp only [if_pos c]
      exact spec_drop_l0 h m d (i + 1) _ out (by omega) (by simp; omega) hnew (by unfold cntB; rw [if_pos c]; omega)
    · have step : ∀ z : S47, Ev (fun k => spec_DropModule.l0 k l (idxF (belowP l m) l.length 0) (num ++ [(out.length : Int)]) (out ++ [z]) ((i + 1 : Nat) : Int)) (out ++ z :: dropM l (belowP l m) d ((i + 1 : Nat) : Int), 0) := fun z => by
        have := spec_drop_l0 h m d (i + 1) (num ++ [(out.length : Int)]) (out ++ [z]) (by omega) (by simp; omega) hnew (by unfold cntB; rw [if_neg c]; simp; omega)
        simpa only [List.append_assoc, List.singleton_append] using this
      by_cases hz : (i : Int) > 0
      · have hpp := hpm.2.2.2 hz
        have hv := hnew (rd_T47 l i).f0.toNat (by omega)
        rw [show (((rd_T47 l i).f0.toNat : Nat) : Int) = (rd_T47 l i).f0 by omega] at hv
        simp only [if_neg c, if_pos hz, if_pos (show (0 : Int) ≤ i by omega), if_pos hpp.1, if_pos (show (rd_T47 l i).f0 < ((num ++ [(out.length : Int)]).length : Int) by simp; omega), if_pos (show out.length < 8796093022208 by omega), hv]
        exact step _
      · have e0 : (rd_T47 l i).f0 = -1 := hpm.2.2.1 (by omega)
        simp only [if_neg c, if_neg hz, if_pos (show (0 : Int) ≤ i by omega), if_pos (show out.length < 8796093022208 by omega), if_neg (show ¬ 0 ≤ (rd_T47 l i).f0 by omega)]
        exact step _
theorem impl_drop_l0 {l : List S47} (h : PMods l) (m : Int) (y : List Bool) (hy : y.length = l.length) (hv : ∀ j : Int, 0 ≤ j → j < l.length → rdOf false y j = belowP l m j) : ∀ (d : Nat) (i : Nat) (num : List Int) (out : List S47), i + d = l.length → num.length = l.length → (∀ j : Nat, j < i → belowP l m j = false → rd num (j : Int) = cntB (belowP l m) j) → (out.length : Int) = cntB (belowP l m) i → Ev (fun k => impl_DropModule.l0 k y num out l l.length (i : Int)) (out ++ dropM l (belowP l m) d i, 0)
  | 0, i, num, out, hd, hn, hj, ho => by
    refine Ev_shift ?_
    simp only [impl_DropModule.l0, if_neg (show ¬ (i : Int) < l.length by omega), dropM, List.append_nil]
    exact Ev.now _
  | d + 1, i, num, out, hd, hn, hj, ho => by
    have hl := h.2.1
    have hc := cntB_rng (belowP l m) i
    have hi : (i : Int) < l.length := by omega
    have hp := parent_lt h (m := (i : Int)) (by omega) hi
    have hb := below_step (m := m) h (show (0 : Int) ≤ i by omega) hi
    have e1 : ((i : Int) + 1) = ((i + 1 : Nat) : Int) := by omega
    refine Ev_shift ?_
    unfold dropM
    simp only [impl_DropModule.l0, if_pos hi, if_pos (show (0 : Int) ≤ i by omega), if_pos (show (i : Int) < y.length by omega), hv i (by omega) hi, w64 (n := (i : Int) + 1) (by omega), w64 (n := ((i + 1 : Nat) : Int)) (by omega), e1]
    by_cases c : belowP l m i = true
    · simp only [if_pos c]
      exact impl_drop_l0 h m y hy hv d (i + 1) num out (by omega) hn (fun j hj2 hf => by
        by_cases e : j = i
        · rw [e, c] at hf
          cases hf
        · exact hj j (by omega) hf) (by unfold cntB; rw [if_pos c]; omega)
    · have c' : belowP l m i = false := by simpa using c
      have hnew : ∀ j : Nat, j < i + 1 → belowP l m j = false → rd (num.set ((i : Int)).toNat (out.length : Int)) (j : Int) = cntB (belowP l m) j := fun j hj2 hf => by
        show List.getD _ _ _ = _
        rw [Int.toNat_natCast, Int.toNat_natCast, List.getD_eq_getElem?_getD, List.getElem?_set]
        by_cases e : i = j
        · rw [if_pos e, if_pos (by omega), ← e]
          exact ho
        · rw [if_neg e]
          have := hj j (by omega) hf
          rw [← this]
          show _ = List.getD _ _ _
          rw [Int.toNat_natCast, List.getD_eq_getElem?_getD]
      have step : ∀ z : S47, Ev (fun k => impl_DropModule.l0 k y (num.set ((i : Int)).toNat (out.length : Int)) (out ++ [z]) l l.length ((i + 1 : Nat) : Int)) (out ++ z :: dropM l (belowP l m) d ((i + 1 : Nat) : Int), 0) := fun z => by
        have := impl_drop_l0 h m y hy hv d (i + 1) (num.set ((i : Int)).toNat (out.length : Int)) (out ++ [z]) (by omega) (by simpa using hn) hnew (by unfold cntB; rw [if_neg c]; simp; omega)
        simpa only [List.append_assoc, List.singleton_append] using this
      simp only [c', Bool.false_eq_true, if_false, if_pos (show (i : Int) < num.length by omega), Option.bind_some]
      by_cases hz : (rd_T47 l i).f0 ≥ 0
      · have hpb : belowP l m (rd_T47 l i).f0 = false := by
          rw [c'] at hb
          cases hx : belowP l m (rd_T47 l i).f0 with
          | false => rfl
          | true =>
            rw [hx, decide_eq_true (show 0 ≤ (rd_T47 l i).f0 from hz)] at hb
            simp at hb
        have hv2 := hnew (rd_T47 l i).f0.toNat (by omega) (by rw [show (((rd_T47 l i).f0.toNat : Nat) : Int) = (rd_T47 l i).f0 by omega]; exact hpb)
        rw [show (((rd_T47 l i).f0.toNat : Nat) : Int) = (rd_T47 l i).f0 by omega] at hv2
        simp only [if_pos hz, if_pos (show 0 ≤ (rd_T47 l i).f0 from hz), if_pos (show (rd_T47 l i).f0 < (num.length : Int) by omega), if_pos (show out.length < 8796093022208 by omega), hv2]
        exact step _
      · simp only [if_neg hz, if_neg (show ¬ 0 ≤ (rd_T47 l i).f0 from hz), if_pos (show out.length < 8796093022208 by omega)]
        exact step _
theorem way_child {l : List S47} (h : PMods l) {m c : Int} (c0 : 0 ≤ c) (c1 : c < l.length) (hc : (rd_T47 l c).f0 = m) : wayF l 12 c = c :: wayF l 12 m := by
  have hl := h.2.1
  have hp := parent_lt h c0 c1
  rw [hc] at hp
  rw [← way_more h 12 13 c (by omega) c1 (by omega) (by omega)]
  show (if 0 ≤ c then c :: wayF l 12 (rd_T47 l c).f0 else []) = _
  rw [if_pos c0, hc]
theorem way_head {l : List S47} {m : Int} (h0 : 0 ≤ m) : ∃ s, wayF l 12 m = m :: s := by
  refine ⟨wayF l 11 (rd_T47 l m).f0, ?_⟩
  show (if 0 ≤ m then m :: wayF l 11 (rd_T47 l m).f0 else []) = _
  rw [if_pos h0]
theorem mcode1 (l : List S47) (hn : l.length ≤ 140737488351232) (m : Int) : ∃ c : Int, (c = 0 → PMods l ∧ 0 ≤ m ∧ m < l.length) ∧ (PMods l → 0 ≤ m → m < l.length → c = 0) ∧ (c = 1 ↔ ¬ PMods l) ∧ Ev (fun k => spec_l12Code.f k l m) c ∧ Ev (fun k => impl_moduleAsked.f k l [m]) c := by
  have hs := spec_l12Code_ev l hn m
  have hi := impl_moduleAsked_ev l hn [m] (by simp)
  by_cases h : PMods l
  · by_cases hm : 0 ≤ m ∧ m < l.length
    · exact ⟨0, fun _ => ⟨h, hm.1, hm.2⟩, fun _ _ _ => rfl, ⟨fun e => by omega, fun x => absurd h x⟩, hs.1 h hm.1 hm.2, hi.1 h (by simpa using hm)⟩
    · exact ⟨2, fun e => by omega, fun _ a b => absurd ⟨a, b⟩ hm, ⟨fun e => by omega, fun x => absurd h x⟩, hs.2.1 h hm, hi.2.1 h (by simpa using hm)⟩
  · exact ⟨1, fun e => by omega, fun x => absurd x h, ⟨fun _ => h, fun _ => rfl⟩, hs.2.2 h, hi.2.2 h⟩
theorem good12_l0 (c : List Int) : ∀ (d : Nat) (out : List S47) (a s : Int), Src c a s → 1 ≤ out.length → out.length + d ≤ 12 → ∃ l a' s', Ev (fun k => spec_l12Good.l0 k out d c a s) (l, a', s') ∧ Src c a' s' ∧ 1 ≤ l.length ∧ l.length ≤ 12
  | 0, out, a, s, h, h1, hd => by
    refine ⟨out, a, s, Ev_shift ?_, h, h1, by omega⟩
    simp only [spec_l12Good.l0, if_neg (show ¬ ((0 : Nat) : Int) > 0 by decide)]
    exact Ev.now _
  | d + 1, out, a, s, h, h1, hd => by
    obtain ⟨v1, a1, s1, e1, g1, _, _⟩ := next_some h (out.length : Int) (by omega)
    obtain ⟨v2, a2, s2, e2, g2, _, _⟩ := next_some g1 6 (by omega)
    obtain ⟨l, a', s', e, hs, hl⟩ := good12_l0 c d (out ++ [(⟨v1, v2⟩ : S47)]) a2 s2 g2 (by simp) (by simp; omega)
    refine ⟨l, a', s', Ev_shift ?_, hs, hl⟩
    simp only [spec_l12Good.l0, if_pos (show ((d + 1 : Nat) : Int) > 0 by omega), e1, e2, Option.bind_some, if_pos (show out.length < 8796093022208 by omega), show ((d + 1 : Nat) : Int) - 1 = (d : Int) by omega, w64 (n := (d : Int)) (by omega)]
    exact e
theorem good12_ev {c : List Int} {a s : Int} (h : Src c a s) : ∃ l a' s', Ev (fun k => spec_l12Good.f k c a s) (l, a', s') ∧ Src c a' s' ∧ 1 ≤ l.length ∧ l.length ≤ 12 := by
  obtain ⟨v1, a1, s1, e1, h1, _, _⟩ := next_some h 5 (by omega)
  obtain ⟨v2, a2, s2, e2, h2, v0, v3⟩ := next_some h1 8 (by omega)
  obtain ⟨l, a', s', e, hs, hl⟩ := good12_l0 c v2.toNat [(⟨(-1), v1⟩ : S47)] a2 s2 h2 (by simp) (by simp; omega)
  rw [show ((v2.toNat : Nat) : Int) = v2 by omega] at e
  refine ⟨l, a', s', ?_, hs, hl⟩
  unfold spec_l12Good.f
  simp only [e1, e2, Option.bind_some]
  exact e
theorem fill12_l0 (c : List Int) : ∀ (d : Nat) (out : List S47) (a s : Int), Src c a s → 14 ≤ out.length + d → out.length ≤ 14 → ∃ l a' s', Ev (fun k => spec_l12Draw.l0 k out c a s) (l, a', s') ∧ Src c a' s' ∧ l.length ≤ 30
  | d, out, a, s, h, hd, ho => by
    obtain ⟨v, a1, s1, e1, h1, v0, v1⟩ := next_some h 2 (by omega)
    by_cases c1 : (out.length : Int) < 12 + v
    · cases d with
      | zero => omega
      | succ d =>
        obtain ⟨l, a', s', e, hs, hl⟩ := fill12_l0 c d (out ++ [(⟨0, 1⟩ : S47)]) a1 s1 h1 (by simp; omega) (by simp; omega)
        refine ⟨l, a', s', Ev_shift ?_, hs, hl⟩
        simp only [spec_l12Draw.l0, e1, Option.bind_some, w64 (n := 12 + v) (by omega), if_pos c1, if_pos (show out.length < 8796093022208 by omega)]
        exact e
    · refine ⟨out, a1, s1, Ev_shift ?_, h1, by omega⟩
      simp only [spec_l12Draw.l0, e1, Option.bind_some, w64 (n := 12 + v) (by omega), if_neg c1]
      exact Ev.now _
theorem draw12_ev {c : List Int} {a s : Int} (h : Src c a s) : ∃ l a' s', Ev (fun k => spec_l12Draw.f k c a s) (l, a', s') ∧ Src c a' s' ∧ l.length ≤ 30 := by
  obtain ⟨l, a1, s1, e1, h1, hl1, hl2⟩ := good12_ev h
  obtain ⟨v, a2, s2, e2, h2, v0, v1⟩ := next_some h1 (l.length : Int) (by omega)
  obtain ⟨u, a3, s3, e3, h3, _, _⟩ := next_some h2 40 (by omega)
  have hv : v < (l.length : Int) := by omega
  have go : ∀ q, Ev (fun k => if u = 0 then ((spec_l01Pick.f c a3 s3 (([v, wrap64 (v - 1), (-1), (-2)] : List Int))).bind fun bt144 => (if 0 ≤ v then (if v < (l.length : Int) then (some ((l.set (v : Int).toNat (⟨bt144.1, (rd_T47 l v).f1⟩ : S47)), bt144.2.1, bt144.2.2)) else (none)) else (none))) else (if u = 1 then ((spec_l01Pick.f c a3 s3 (([(-1), 32, 33] : List Int))).bind fun bt151 => (if 0 ≤ v then (if v < (l.length : Int) then (some ((l.set (v : Int).toNat (⟨(rd_T47 l v).f0, bt151.1⟩ : S47)), bt151.2.1, bt151.2.2)) else (none)) else (none))) else (if u = 2 then (spec_l12Draw.l0 k l c a3 s3) else (if u = 3 then (if 0 ≤ (l.length : Int) then (some ((l.take (0 : Int).toNat), a3, s3)) else (none)) else (some (l, a3, s3)))))) q → Ev (fun k => spec_l12Draw.f k c a s) q := fun q hq => by
    unfold spec_l12Draw.f
    refine Ev.bind e1 ?_
    simp only [e2, e3, Option.bind_some]
    exact hq
  by_cases c0 : u = 0
  · obtain ⟨p, a4, s4, e4, h4, _⟩ := pick_some h3 [v, wrap64 (v - 1), (-1), (-2)] (by simp) (by simp)
    refine ⟨l.set v.toNat (⟨p, (rd_T47 l v).f1⟩ : S47), a4, s4, go _ ?_, h4, by simp; omega⟩
    simp only [if_pos c0, e4, Option.bind_some, if_pos v0, if_pos hv]
    exact Ev.now _
  · by_cases c1 : u = 1
    · obtain ⟨p, a4, s4, e4, h4, _⟩ := pick_some h3 [(-1), 32, 33] (by simp) (by simp)
      refine ⟨l.set v.toNat (⟨(rd_T47 l v).f0, p⟩ : S47), a4, s4, go _ ?_, h4, by simp; omega⟩
      simp only [if_neg c0, if_pos c1, e4, Option.bind_some, if_pos v0, if_pos hv]
      exact Ev.now _
    · by_cases c2 : u = 2
      · obtain ⟨l', a', s', e, hs, hl⟩ := fill12_l0 c 14 l a3 s3 h3 (by omega) (by omega)
        refine ⟨l', a', s', go _ ?_, hs, hl⟩
        simp only [if_neg c0, if_neg c1, if_pos c2]
        exact e
      · by_cases c3 : u = 3
        · refine ⟨l.take (0 : Int).toNat, a3, s3, go _ ?_, h3, by simp⟩
          simp only [if_neg c0, if_neg c1, if_neg c2, if_pos c3, if_pos (show 0 ≤ (l.length : Int) by omega)]
          exact Ev.now _
        · refine ⟨l, a3, s3, go _ ?_, h3, by omega⟩
          simp only [if_neg c0, if_neg c1, if_neg c2, if_neg c3]
          exact Ev.now _
theorem drawDepth_ev (c : List Int) (hc : c.length ≤ 4096) (hb : ∀ x ∈ c, 0 ≤ x ∧ x ≤ 255) : ∃ (l : List S47) (m : Int), Ev (fun k => spec_DrawDepthOf.f k c) (l, m) ∧ l.length ≤ 30 := by
  obtain ⟨s, e0, h0⟩ := from_ev c hc hb
  obtain ⟨l, a1, s1, e1, h1, hl⟩ := draw12_ev h0
  obtain ⟨v, a2, s2, e2, h2, _, _⟩ := next_some h1 (wrap64 ((l.length : Int) + 1)) (by rw [w64 (by omega)]; omega)
  obtain ⟨u, a3, s3, e3, h3, _, _⟩ := next_some h2 24 (by omega)
  refine ⟨l, wrap64 (v - wrap64 (Int.tdiv u 23)), ?_, hl⟩
  unfold spec_DrawDepthOf.f
  refine Ev.bind e0 (Ev.bind e1 ?_)
  simp only [e2, e3, Option.bind_some]
  exact Ev.now _
theorem drop_val (m0 : List S47) (a1 : Int) (hn0 : m0.length ≤ 1000000) : ∃ q : List S47 × Int, Ev (fun k => spec_DropModule.f k m0 a1) q ∧ Ev (fun k => impl_DropModule.f k m0 a1) q ∧ q.1.length ≤ 1000000 ∧ (q.2 = 0 → PMods m0 ∧ 0 < a1 ∧ a1 < m0.length ∧ q.1 = dropM m0 (belowP m0 a1) m0.length 0) ∧ (PMods m0 → 0 < a1 → a1 < m0.length → q.2 = 0) := by
  obtain ⟨c, hc, hc2, _, hs, hi⟩ := mcode1 m0 (by omega) a1
  have j1 : ∀ c : Int, c ≠ 0 → Ev (fun k => spec_DropModule.j1 k m0 a1 c) (([] : List S47), c) := fun c hc => by
    refine Ev_shift ?_
    simp only [spec_DropModule.j1, if_neg hc]
    exact Ev.now _
  by_cases h : c = 0
  · obtain ⟨hp, h0, h1⟩ := hc h
    have hl := hp.2.1
    obtain ⟨y, ya, yb, yc⟩ := impl_below hp h0 h1
    by_cases hz : a1 = 0
    · refine ⟨([], 5), ?_, ?_, by simp, fun e => absurd e (by decide), fun _ a _ => by omega⟩
      · unfold spec_DropModule.f
        refine Ev.bind hs ?_
        simp only [if_pos h, hz, beq_self_eq_true]
        refine Ev_shift ?_
        simp only [spec_DropModule.j0, if_true]
        have := j1 5 (by omega)
        rw [hz] at this
        exact this
      · unfold impl_DropModule.f
        refine Ev.bind hi ?_
        simp only [if_pos h, if_pos hz]
        exact Ev.now _
    · have hlen := dropM_length m0 (belowP m0 a1) m0.length 0
      refine ⟨(dropM m0 (belowP m0 a1) m0.length 0, 0), ?_, ?_, by show List.length (dropM _ _ _ _) ≤ _; omega, fun _ => ⟨hp, by omega, h1, rfl⟩, fun _ _ _ => rfl⟩
      · unfold spec_DropModule.f
        refine Ev.bind hs ?_
        simp only [if_pos h, show (a1 == 0) = false from beq_eq_false_iff_ne.2 hz]
        refine Ev_shift ?_
        simp only [spec_DropModule.j0, Bool.false_eq_true, if_false]
        refine Ev_shift ?_
        simp only [spec_DropModule.j1, if_pos h]
        refine Ev.bind (spec_below hp a1) ?_
        exact spec_drop_l0 hp a1 m0.length 0 [] [] (by omega) rfl (fun j hj => by omega) rfl
      · unfold impl_DropModule.f
        refine Ev.bind hi ?_
        simp only [if_pos h, if_neg hz]
        refine Ev.bind yc ?_
        simp only [if_pos (show 0 ≤ (m0.length : Int) by omega), Int.toNat_natCast, if_pos (show m0.length ≤ 35184372088832 by omega)]
        exact impl_drop_l0 hp a1 y ya yb m0.length 0 _ [] (by omega) (by simp) (fun j hj => by omega) rfl
  · refine ⟨([], c), ?_, ?_, by simp, fun e => absurd e h, fun a b d => absurd (hc2 a (by omega) d) h⟩
    · unfold spec_DropModule.f
      refine Ev.bind hs ?_
      simp only [if_neg h]
      refine Ev_shift ?_
      simp only [spec_DropModule.j0, Bool.false_eq_true, if_false]
      exact j1 c h
    · unfold impl_DropModule.f
      refine Ev.bind hi ?_
      simp only [if_neg h]
      exact Ev.now _
theorem add_val (m0 : List S47) (a1_0 a1_1 : Int) (hn0 : m0.length ≤ 1000000) : ∃ q : List S47 × Int, Ev (fun k => spec_AddModule.f k m0 a1_0 a1_1) q ∧ Ev (fun k => impl_AddModule.f k m0 a1_0 a1_1) q ∧ q.1.length ≤ 1000001 ∧ (q.2 = 0 → PMods m0 ∧ PMods (m0 ++ [(⟨a1_0, a1_1⟩ : S47)]) ∧ q.1 = m0 ++ [(⟨a1_0, a1_1⟩ : S47)]) := by
  have hs := spec_AreModules_ev m0 (by omega)
  have hi := impl_AreModules_ev m0 (by omega)
  have hs2 := spec_AreModules_ev (m0 ++ [(⟨a1_0, a1_1⟩ : S47)]) (by simp; omega)
  have hi2 := impl_AreModules_ev (m0 ++ [(⟨a1_0, a1_1⟩ : S47)]) (by simp; omega)
  by_cases h : PMods m0
  · rw [tt_pos h] at hs hi
    by_cases c : (m0.length : Int) = 12
    · refine ⟨([], 3), ?_, ?_, by simp, fun e => absurd e (by decide)⟩
      · unfold spec_AddModule.f
        refine Ev.bind hs ?_
        simp only [if_true, if_pos c]
        exact Ev.now _
      · unfold impl_AddModule.f
        refine Ev.bind hi ?_
        simp only [if_true, if_pos c]
        exact Ev.now _
    · have ss : ∀ q, Ev (fun k => (spec_AreModules.f k (m0 ++ [(⟨a1_0, a1_1⟩ : S47)])).bind fun t123 => (if t123 = true then (some (m0 ++ [(⟨a1_0, a1_1⟩ : S47)], 0)) else (some (([] : List (S47)), 5)))) q → Ev (fun k => spec_AddModule.f k m0 a1_0 a1_1) q := fun q hq => by
        unfold spec_AddModule.f
        refine Ev.bind hs ?_
        simp only [if_true, if_neg c, Option.bind_some, List.nil_append, List.length_nil, Nat.zero_add, if_pos (show m0.length < 8796093022208 by omega), List.length_singleton, if_pos (show m0.length + 1 < 8796093022208 by omega)]
        exact hq
      have si : ∀ q, Ev (fun k => (impl_AreModules.f k (m0 ++ [(⟨a1_0, a1_1⟩ : S47)])).bind fun t123 => (if t123 = true then (some (m0 ++ [(⟨a1_0, a1_1⟩ : S47)], 0)) else (some (([] : List (S47)), 5)))) q → Ev (fun k => impl_AddModule.f k m0 a1_0 a1_1) q := fun q hq => by
        unfold impl_AddModule.f
        refine Ev.bind hi ?_
        simp only [if_true, if_neg c, Option.bind_some, List.nil_append, List.length_nil, Nat.zero_add, if_pos (show m0.length < 8796093022208 by omega), List.length_singleton, if_pos (show m0.length + 1 < 8796093022208 by omega)]
        exact hq
      by_cases g : PMods (m0 ++ [(⟨a1_0, a1_1⟩ : S47)])
      · rw [tt_pos g] at hs2 hi2
        exact ⟨(m0 ++ [(⟨a1_0, a1_1⟩ : S47)], 0), (ss _ (Ev.bind hs2 (by simp only [if_true]; exact Ev.now _))), (si _ (Ev.bind hi2 (by simp only [if_true]; exact Ev.now _))), by simp; omega, fun _ => ⟨h, g, rfl⟩⟩
      · rw [tt_neg g] at hs2 hi2
        exact ⟨([], 5), (ss _ (Ev.bind hs2 (by simp only [Bool.false_eq_true, if_false]; exact Ev.now _))), (si _ (Ev.bind hi2 (by simp only [Bool.false_eq_true, if_false]; exact Ev.now _))), by simp, fun e => absurd e (by decide)⟩
  · rw [tt_neg h] at hs hi
    refine ⟨([], 1), ?_, ?_, by simp, fun e => absurd e (by decide)⟩
    · unfold spec_AddModule.f
      refine Ev.bind hs ?_
      simp only [Bool.false_eq_true, if_false]
      exact Ev.now _
    · unfold impl_AddModule.f
      refine Ev.bind hi ?_
      simp only [Bool.false_eq_true, if_false]
      exact Ev.now _
theorem meet_val (m0 : List S47) (a1 a2 : Int) (hn0 : m0.length ≤ 1000000) : ∃ q : Int × Int, Ev (fun k => spec_MeetingPoint.f k m0 a1 a2) q ∧ Ev (fun k => impl_MeetingPoint.f k m0 a1 a2) q ∧ (q.2 = 0 → PMods m0 ∧ (0 ≤ a1 ∧ a1 < m0.length) ∧ (0 ≤ a2 ∧ a2 < m0.length) ∧ q.1 = meetF m0 (a1 + a2 + 1).toNat a1 a2) ∧ (PMods m0 → (0 ≤ a1 ∧ a1 < m0.length) → (0 ≤ a2 ∧ a2 < m0.length) → q.2 = 0) := by
  have hs1 := spec_l12Code_ev m0 (by omega) a1
  have hs2 := spec_l12Code_ev m0 (by omega) a2
  have hi := impl_moduleAsked_ev m0 (by omega) [a1, a2] (by simp)
  have bad : ∀ c, c ≠ 0 → Ev (fun k => spec_MeetingPoint.j0 k m0 a1 a2 c) ((0 : Int), c) := fun c hc => by
    refine Ev_shift ?_
    simp only [spec_MeetingPoint.j0, if_neg hc]
    exact Ev.now _
  by_cases h : PMods m0
  · by_cases h1 : 0 ≤ a1 ∧ a1 < m0.length
    · by_cases h2 : 0 ≤ a2 ∧ a2 < m0.length
      · refine ⟨(meetF m0 (a1 + a2 + 1).toNat a1 a2, 0), ?_, ?_, fun _ => ⟨h, h1, h2, rfl⟩, fun _ _ _ => rfl⟩
        · unfold spec_MeetingPoint.f
          refine Ev.bind (hs1.1 h h1.1 h1.2) ?_
          simp only [if_true]
          refine Ev.bind (hs2.1 h h2.1 h2.2) (Ev_shift ?_)
          simp only [spec_MeetingPoint.j0, if_true]
          exact Ev.bind (spec_way h h2.1 h2.2) (spec_meet h _ a1 a2 h1.1 h1.2 h2.1 h2.2 (by omega))
        · unfold impl_MeetingPoint.f
          refine Ev.bind (hi.1 h (by simpa using ⟨h1, h2⟩)) ?_
          simp only [if_true]
          exact impl_meet h _ a1 a2 h1.1 h1.2 h2.1 h2.2 (by omega)
      · refine ⟨(0, 2), ?_, ?_, fun e => absurd e (by decide), fun _ _ x => absurd x h2⟩
        · unfold spec_MeetingPoint.f
          refine Ev.bind (hs1.1 h h1.1 h1.2) ?_
          simp only [if_true]
          exact Ev.bind (hs2.2.1 h h2) (bad 2 (by omega))
        · unfold impl_MeetingPoint.f
          exact Ev.bind (hi.2.1 h (by intro hx; exact h2 (hx a2 (by simp)))) (Ev.now _)
    · refine ⟨(0, 2), ?_, ?_, fun e => absurd e (by decide), fun _ x _ => absurd x h1⟩
      · unfold spec_MeetingPoint.f
        exact Ev.bind (hs1.2.1 h h1) (bad 2 (by omega))
      · unfold impl_MeetingPoint.f
        exact Ev.bind (hi.2.1 h (by intro hx; exact h1 (hx a1 (by simp)))) (Ev.now _)
  · refine ⟨(0, 1), ?_, ?_, fun e => absurd e (by decide), fun x _ _ => absurd x h⟩
    · unfold spec_MeetingPoint.f
      exact Ev.bind (hs1.2.2 h) (bad 1 (by omega))
    · unfold impl_MeetingPoint.f
      exact Ev.bind (hi.2.2 h) (Ev.now _)
theorem meet_mem {l : List S47} (h : PMods l) : ∀ (n : Nat) (a b : Int), 0 ≤ a → a < l.length → 0 ≤ b → b < l.length → a + b + 1 ≤ n → meetF l n a b = meetF l n b a ∧ meetF l n a b ∈ wayF l 12 a ∧ meetF l n a b ∈ wayF l 12 b
  | 0, a, b, a0, a1, b0, b1, hn => by omega
  | n + 1, a, b, a0, a1, b0, b1, hn => by
    have self : ∀ x : Int, 0 ≤ x → x ∈ wayF l 12 x := fun x x0 => by
      obtain ⟨s, e⟩ := way_head (l := l) x0
      rw [e]
      simp
    rw [meetF_succ l n a b, meetF_succ l n b a]
    by_cases e : a = b
    · rw [if_pos e, if_pos e.symm]
      subst e
      exact ⟨rfl, self a a0, self a a0⟩
    · rw [if_neg e, if_neg (show ¬ b = a from fun x => e x.symm)]
      rcases Int.lt_or_le b a with g | g
      · rw [if_pos (show a > b from g), if_neg (show ¬ b > a by omega)]
        have hq := (h.2.2 a a0 a1).2.2.2 (by omega)
        have ih := meet_mem h n _ b hq.1 (by omega) b0 b1 (by omega)
        refine ⟨ih.1, ?_, ih.2.2⟩
        rw [way_child h a0 a1 rfl]
        exact List.mem_cons_of_mem _ ih.2.1
      · rw [if_neg (show ¬ a > b by omega), if_pos (show b > a by omega)]
        have hq := (h.2.2 b b0 b1).2.2.2 (by omega)
        have ih := meet_mem h n a _ a0 a1 hq.1 (by omega) (by omega)
        refine ⟨ih.1, ih.2.1, ?_⟩
        rw [way_child h b0 b1 rfl]
        exact List.mem_cons_of_mem _ ih.2.2
/-- Modules that are right from a number on. -/
def OkFrom : List S47 → Int → Prop
  | [], _ => True
  | z :: s, i => (0 ≤ z.f1 ∧ z.f1 ≤ 32 ∧ (i = 0 → z.f0 = -1) ∧ (0 < i → 0 ≤ z.f0 ∧ z.f0 ≤ i - 1)) ∧ OkFrom s (i + 1)
theorem okFrom_at : ∀ (s : List S47) (i : Int), OkFrom s i → ∀ j : Nat, j < s.length → 0 ≤ (rd_T47 s j).f1 ∧ (rd_T47 s j).f1 ≤ 32 ∧ (i + j = 0 → (rd_T47 s j).f0 = -1) ∧ (0 < i + j → 0 ≤ (rd_T47 s j).f0 ∧ (rd_T47 s j).f0 ≤ i + j - 1)
  | [], i, h, j, hj => by simp at hj
  | z :: s, i, h, 0, hj => by
    have e : rd_T47 (z :: s) ((0 : Nat) : Int) = z := rfl
    rw [e]
    have := h.1
    refine ⟨this.1, this.2.1, fun x => this.2.2.1 (by omega), fun x => ?_⟩
    have := this.2.2.2 (by omega)
    omega
  | z :: s, i, h, j + 1, hj => by
    have e : rd_T47 (z :: s) ((j + 1 : Nat) : Int) = rd_T47 s (j : Int) := rfl
    rw [e]
    have := okFrom_at s (i + 1) h.2 j (by simpa using hj)
    refine ⟨this.1, this.2.1, fun x => this.2.2.1 (by omega), fun x => ?_⟩
    have := this.2.2.2 (by omega)
    omega
theorem cntB_mono (b : Int → Bool) (i : Nat) : ∀ d : Nat, cntB b i ≤ cntB b (i + d)
  | 0 => Int.le_refl _
  | d + 1 => by
    have := cntB_mono b i d
    show cntB b i ≤ cntB b (i + d) + _
    split <;> omega
theorem dropM_ok {l : List S47} (h : PMods l) {m : Int} (m0 : 0 < m) : ∀ (d : Nat) (i : Nat), i + d = l.length → OkFrom (dropM l (belowP l m) d i) (cntB (belowP l m) i)
  | 0, i, hd => trivial
  | d + 1, i, hd => by
    have hl := h.2.1
    have hi : (i : Int) < l.length := by omega
    have ih := dropM_ok h m0 d (i + 1) (by omega)
    have e1 : (((i + 1 : Nat)) : Int) = (i : Int) + 1 := by omega
    unfold dropM
    by_cases c : belowP l m i = true
    · rw [if_pos c]
      rw [e1] at ih
      have : cntB (belowP l m) (i + 1) = cntB (belowP l m) i := by
        show cntB (belowP l m) i + _ = _
        rw [if_pos c]
        omega
      rw [this] at ih
      exact ih
    · rw [if_neg c]
      rw [e1] at ih
      have : cntB (belowP l m) (i + 1) = cntB (belowP l m) i + 1 := by
        show cntB (belowP l m) i + _ = _
        rw [if_neg c]
      rw [this] at ih
      refine ⟨?_, ih⟩
      have hp := h.2.2 (i : Int) (by omega) hi
      unfold PM at hp
      have hb := below_step (m := m) h (show (0 : Int) ≤ i by omega) hi
      have c' : belowP l m i = false := by simpa using c
      refine ⟨hp.1, hp.2.1, fun z => ?_, fun z => ?_⟩
      · show (if 0 ≤ (rd_T47 l i).f0 then _ else _) = -1
        by_cases i0 : (i : Int) = 0
        · rw [hp.2.2.1 i0]
          rfl
        · exfalso
          -- the master isn't below, so it is counted
          have hm : belowP l m (0 : Nat) = false := by
            have := below_step (m := m) h (show (0 : Int) ≤ 0 by omega) (by omega)
            rw [show ((0 : Nat) : Int) = 0 from rfl, this, (h.2.2 0 (by omega) (by omega)).2.2.1 rfl, decide_eq_false (show ¬ m = 0 by omega)]
            rfl
          have h1 : cntB (belowP l m) 1 = 1 := by
            show cntB (belowP l m) 0 + (if belowP l m (0 : Nat) = true then 0 else 1) = 1
            rw [hm]
            rfl
          have := cntB_mono (belowP l m) 1 (i - 1)
          rw [show 1 + (i - 1) = i by omega] at this
          omega
      · show 0 ≤ (if 0 ≤ (rd_T47 l i).f0 then _ else _) ∧ (if 0 ≤ (rd_T47 l i).f0 then _ else _) ≤ _
        have hi0 : 0 < (i : Int) := by
          rcases Nat.eq_zero_or_pos i with e | e
          · subst e
            have : cntB (belowP l m) 0 = 0 := rfl
            omega
          · omega
        have hq := hp.2.2.2 hi0
        rw [if_pos hq.1]
        have hpb : belowP l m (rd_T47 l i).f0 = false := by
          rw [c'] at hb
          cases hx : belowP l m (rd_T47 l i).f0 with
          | false => rfl
          | true =>
            rw [hx, decide_eq_true hq.1] at hb
            simp at hb
        have hn : (((rd_T47 l i).f0.toNat : Nat) : Int) = (rd_T47 l i).f0 := by omega
        have s1 : cntB (belowP l m) ((rd_T47 l i).f0.toNat + 1) = cntB (belowP l m) (rd_T47 l i).f0.toNat + 1 := by
          show cntB (belowP l m) (rd_T47 l i).f0.toNat + (if belowP l m (((rd_T47 l i).f0.toNat : Nat) : Int) = true then 0 else 1) = _
          rw [hn, hpb]
          rfl
        have s2 := cntB_mono (belowP l m) ((rd_T47 l i).f0.toNat + 1) (i - ((rd_T47 l i).f0.toNat + 1))
        rw [show (rd_T47 l i).f0.toNat + 1 + (i - ((rd_T47 l i).f0.toNat + 1)) = i by omega] at s2
        have s3 := cntB_rng (belowP l m) (rd_T47 l i).f0.toNat
        omega
theorem dropM_cnt (l : List S47) (b : Int → Bool) : ∀ (d : Nat) (i : Int), (dropM l b d i).length + (idxF b d i).length = d
  | 0, i => rfl
  | d + 1, i => by
    have := dropM_cnt l b d (i + 1)
    unfold dropM idxF
    split
    · simp only [List.length_cons]
      omega
    · simp only [List.length_cons]
      omega
theorem dropM_pmods {l : List S47} (h : PMods l) {m : Int} (m0 : 0 < m) (m1 : m < l.length) : PMods (dropM l (belowP l m) l.length 0) := by
  have hl := h.2.1
  have hlen := dropM_length l (belowP l m) l.length 0
  have hok : OkFrom (dropM l (belowP l m) l.length 0) (cntB (belowP l m) 0) := dropM_ok h m0 l.length 0 (by omega)
  have hne : 1 ≤ (dropM l (belowP l m) l.length 0).length := by
    have hm : belowP l m 0 = false := by
      have := below_step (m := m) h (show (0 : Int) ≤ 0 by omega) (by omega)
      rw [this, (h.2.2 0 (by omega) (by omega)).2.2.1 rfl, decide_eq_false (show ¬ m = 0 by omega)]
      rfl
    obtain ⟨d, hd⟩ : ∃ d, l.length = d + 1 := ⟨l.length - 1, by omega⟩
    rw [hd]
    unfold dropM
    rw [hm]
    simp
  refine ⟨hne, by omega, fun j j0 j1 => ?_⟩
  have := okFrom_at _ _ hok j.toNat (by omega)
  rw [show ((j.toNat : Nat) : Int) = j by omega] at this
  have hz : cntB (belowP l m) 0 = 0 := rfl
  rw [hz] at this
  unfold PM
  refine ⟨this.1, this.2.1, fun e => this.2.2.1 (by omega), fun e => ?_⟩
  have := this.2.2.2 (by omega)
  omega
theorem drop_last {l : List S47} {z : S47} (h : PMods (l ++ [z])) : dropM (l ++ [z]) (belowP (l ++ [z]) (l.length : Int)) (l ++ [z]).length 0 = l := by
  have hl := h.2.1
  have hlen : (l ++ [z]).length = l.length + 1 := by simp
  have nb : ∀ i : Int, 0 ≤ i → i < l.length → belowP (l ++ [z]) (l.length : Int) i = false := fun i i0 i1 => by
    refine decide_eq_false (fun hx => ?_)
    have := way_le h 12 i _ (by omega) (by omega) hx
    omega
  have yb : belowP (l ++ [z]) (l.length : Int) (l.length : Int) = true := by
    have := below_step (m := (l.length : Int)) h (i := (l.length : Int)) (by omega) (by omega)
    rw [this, decide_eq_true rfl]
    rfl
  have cn : ∀ n : Nat, n ≤ l.length → cntB (belowP (l ++ [z]) (l.length : Int)) n = n := fun n => by
    induction n with
    | zero => intro _; rfl
    | succ n ih =>
      intro hn
      show cntB (belowP (l ++ [z]) (l.length : Int)) n + (if belowP (l ++ [z]) (l.length : Int) (n : Int) = true then 0 else 1) = _
      rw [nb n (by omega) (by omega), ih (by omega)]
      simp
  have key : ∀ (d : Nat) (i : Nat), i + d = l.length → dropM (l ++ [z]) (belowP (l ++ [z]) (l.length : Int)) (d + 1) i = l.drop i := fun d => by
    induction d with
    | zero =>
      intro i hi
      unfold dropM
      rw [show (i : Int) = (l.length : Int) by omega, yb, if_pos rfl, List.drop_eq_nil_of_le (by omega)]
      rfl
    | succ d ih =>
      intro i hi
      have hlt : i < l.length := by omega
      have hp := h.2.2 (i : Int) (by omega) (by omega)
      unfold PM at hp
      have er : rd_T47 (l ++ [z]) (i : Int) = l[i] := by
        show List.getD _ _ _ = _
        rw [Int.toNat_natCast, List.getD_eq_getElem?_getD, List.getElem?_append_left hlt, List.getElem?_eq_getElem hlt]
        rfl
      rw [List.drop_eq_getElem_cons hlt, ← ih (i + 1) (by omega)]
      show (if belowP (l ++ [z]) (l.length : Int) (i : Int) = true then _ else _) = _
      rw [nb i (by omega) (by omega), if_neg (by decide), show ((i : Int) + 1) = ((i + 1 : Nat) : Int) by omega]
      congr 1
      rw [er] at hp ⊢
      by_cases i0 : (i : Int) = 0
      · have := hp.2.2.1 i0
        rw [if_neg (by omega)]
      · have := hp.2.2.2 (by omega)
        rw [if_pos this.1, cn _ (by omega), show ((l[i].f0.toNat : Nat) : Int) = l[i].f0 by omega]
  have := key l.length 0 (by omega)
  rw [hlen]
  exact this
theorem likeMods_l0 (l : List S47) (hl : l.length ≤ 10000000) : ∀ (d : Nat) (i : Int), 0 ≤ i → i + d = l.length → Ev (fun k => laws_likeModules.l0 k l l i) true
  | 0, i, h0, hd => by
    refine Ev_shift ?_
    simp only [laws_likeModules.l0, if_neg (show ¬ i < (l.length : Int) by omega)]
    exact Ev.now _
  | d + 1, i, h0, hd => by
    refine Ev_shift ?_
    simp only [laws_likeModules.l0, if_pos (show i < (l.length : Int) by omega), if_pos h0, beq_self_eq_true, Bool.not_true, Bool.or_false, Bool.false_eq_true, if_false, w64 (n := i + 1) (by omega)]
    exact likeMods_l0 l hl d (i + 1) (by omega) (by omega)
theorem likeMods_self (l : List S47) (hl : l.length ≤ 10000000) : Ev (fun k => laws_likeModules.f k l l) true := by
  unfold laws_likeModules.f
  simp only [if_true]
  exact likeMods_l0 l hl l.length 0 (by omega) (by omega)
theorem drawAddM_ev (c : List Int) (hc : c.length ≤ 4096) (hb : ∀ x ∈ c, 0 ≤ x ∧ x ≤ 255) : ∃ (l : List S47) (p q : Int), Ev (fun k => spec_DrawAddModule.f k c) (l, p, q) ∧ l.length ≤ 30 := by
  obtain ⟨s, e0, h0⟩ := from_ev c hc hb
  obtain ⟨l, a1, s1, e1, h1, hl⟩ := draw12_ev h0
  obtain ⟨v, a2, s2, e2, h2, _, _⟩ := next_some h1 (wrap64 ((l.length : Int) + 1)) (by rw [w64 (by omega)]; omega)
  obtain ⟨u, a3, s3, e3, h3, _, _⟩ := next_some h2 12 (by omega)
  obtain ⟨x, a4, s4, e4, h4, _, _⟩ := next_some h3 8 (by omega)
  obtain ⟨y, a5, s5, e5, h5, _⟩ := pick_some h4 [x, 32, 33] (by simp) (by simp)
  refine ⟨l, wrap64 (v - wrap64 (Int.tdiv u 11)), y, ?_, hl⟩
  unfold spec_DrawAddModule.f
  refine Ev.bind e0 (Ev.bind e1 ?_)
  simp only [e2, e3, e4, e5, Option.bind_some]
  exact Ev.now _
theorem drawDropM_ev (c : List Int) (hc : c.length ≤ 4096) (hb : ∀ x ∈ c, 0 ≤ x ∧ x ≤ 255) : ∃ (l : List S47) (m : Int), Ev (fun k => spec_DrawDropModule.f k c) (l, m) ∧ l.length ≤ 30 := by
  obtain ⟨l, m, e, hl⟩ := drawDepth_ev c hc hb
  refine ⟨l, m, ?_, hl⟩
  unfold spec_DrawDropModule.f
  exact Ev.bind e (Ev.now _)
theorem drawMeet_ev (c : List Int) (hc : c.length ≤ 4096) (hb : ∀ x ∈ c, 0 ≤ x ∧ x ≤ 255) : ∃ (l : List S47) (p q : Int), Ev (fun k => spec_DrawMeetingPoint.f k c) (l, p, q) ∧ l.length ≤ 30 := by
  obtain ⟨s, e0, h0⟩ := from_ev c hc hb
  obtain ⟨l, a1, s1, e1, h1, hl⟩ := draw12_ev h0
  obtain ⟨u, a2, s2, e2, h2, u0, u1⟩ := next_some h1 12 (by omega)
  have hw : wrap64 ((l.length : Int) + wrap64 (Int.tdiv u 11)) ≤ 1000000000000 := by
    have : 0 ≤ Int.tdiv u 11 ∧ Int.tdiv u 11 ≤ 12 := by rw [Int.tdiv_eq_ediv_of_nonneg u0]; omega
    rw [w64 (n := Int.tdiv u 11) (by omega), w64 (by omega)]
    omega
  obtain ⟨v, a3, s3, e3, h3, _, _⟩ := next_some h2 _ hw
  obtain ⟨x, a4, s4, e4, h4, _, _⟩ := next_some h3 _ hw
  refine ⟨l, v, x, ?_, hl⟩
  unfold spec_DrawMeetingPoint.f
  refine Ev.bind e0 (Ev.bind e1 ?_)
  simp only [e2, e3, e4, Option.bind_some]
  exact Ev.now _
theorem wayi_val {l : List S47} {m c : Int} (hc : c = 0 → PMods l ∧ 0 ≤ m ∧ m < l.length) (hi : Ev (fun k => impl_moduleAsked.f k l [m]) c) : ∃ q : List Int × Int, Ev (fun k => impl_WayToMaster.f k l m) q ∧ q.2 = c ∧ (c = 0 → q.1 = wayF l 12 m) ∧ q.1.length ≤ 12 := by
  by_cases h : c = 0
  · obtain ⟨hp, h0, h1⟩ := hc h
    refine ⟨(wayF l 12 m, 0), ?_, h.symm, fun _ => rfl, wayF_length l 12 m⟩
    unfold impl_WayToMaster.f
    refine Ev.bind hi ?_
    simp only [if_pos h]
    exact Ev.bind (impl_way hp h0 h1) (Ev.now _)
  · refine ⟨([], c), ?_, rfl, fun e => absurd e h, by simp⟩
    unfold impl_WayToMaster.f
    refine Ev.bind hi ?_
    simp only [if_neg h]
    exact Ev.now _
theorem belowi_val {l : List S47} {m c : Int} (hc : c = 0 → PMods l ∧ 0 ≤ m ∧ m < l.length) (hi : Ev (fun k => impl_moduleAsked.f k l [m]) c) : ∃ q : List Int × Int, Ev (fun k => impl_ModulesBelow.f k l m) q ∧ q.2 = c ∧ (c = 0 → q.1 = idxF (belowP l m) l.length 0) ∧ q.1.length ≤ 12 := by
  by_cases h : c = 0
  · obtain ⟨hp, h0, h1⟩ := hc h
    have hl := hp.2.1
    have hlen := idxF_length (belowP l m) l.length 0
    obtain ⟨y, ya, yb, yc⟩ := impl_below hp h0 h1
    refine ⟨(idxF (belowP l m) l.length 0, 0), ?_, h.symm, fun _ => rfl, by show List.length (idxF _ _ _) ≤ _; omega⟩
    unfold impl_ModulesBelow.f
    refine Ev.bind hi ?_
    simp only [if_pos h]
    refine Ev.bind yc ?_
    have := ev_filter (L := fun i out k => impl_ModulesBelow.l0 k out y y.length i) (p := belowP l m) (n := l.length) (fin := fun out => (out, (0 : Int)))
      (fun i out h0 h1 h2 hp' r hr => by
        refine Ev_shift ?_
        simp only [impl_ModulesBelow.l0, if_pos (show i < (y.length : Int) by omega), if_pos h0, yb i h0 h1, hp', if_true, if_pos (show out.length < 17592186044416 by omega), w64 (n := i + 1) (by omega)]
        exact hr)
      (fun i out h0 h1 h2 hp' r hr => by
        refine Ev_shift ?_
        simp only [impl_ModulesBelow.l0, if_pos (show i < (y.length : Int) by omega), if_pos h0, yb i h0 h1, hp', Bool.false_eq_true, if_false, w64 (n := i + 1) (by omega)]
        exact hr)
      (fun out h2 => by
        refine Ev_shift ?_
        simp only [impl_ModulesBelow.l0, if_neg (show ¬ (l.length : Int) < y.length by omega)]
        exact Ev.now _) l.length 0 [] (by omega) (by omega) (by simp)
    exact this
  · refine ⟨([], c), ?_, rfl, fun e => absurd e h, by simp⟩
    unfold impl_ModulesBelow.f
    refine Ev.bind hi ?_
    simp only [if_neg h]
    exact Ev.now _
theorem FnModuleChanges : laws_FnModuleChanges.Pure := by
  intro c _ _ hw
  have hb := u8_rng hw
  by_cases big : (c.length : Int) > 4096
  · refine ⟨0, ?_⟩
    unfold laws_FnModuleChanges.f laws_big.f
    simp only [Option.bind_some, decide_eq_true big, if_true]
  · suffices hq : Ev (fun k => laws_FnModuleChanges.f k c) true by
      obtain ⟨K, hK⟩ := hq
      exact ⟨K, hK K (Nat.le_refl _)⟩
    obtain ⟨l, p, q, ed, hl⟩ := drawAddM_ev c (by omega) hb
    obtain ⟨x, k, ex, hx⟩ := drawDropM_ev c (by omega) hb
    obtain ⟨y, a, b, ey, hy⟩ := drawMeet_ev c (by omega) hb
    obtain ⟨⟨w, wc⟩, ws, wi, w1, w2⟩ := add_val l p q (by omega)
    obtain ⟨⟨d, dc⟩, ds, di, d1, d2, _⟩ := drop_val x k (by omega)
    obtain ⟨⟨n, nc⟩, ns, ni, n1, _⟩ := meet_val y a b (by omega)
    simp only at w1 w2 d1 d2 n1
    unfold laws_FnModuleChanges.f laws_big.f
    simp only [Option.bind_some, decide_eq_false big, Bool.false_eq_true, if_false]
    refine Ev.bind ed (Ev.bind wi (Ev.bind ws (Ev.bind ex (Ev.bind di (Ev.bind ds (Ev.bind ey (Ev.bind ni (Ev.bind ns ?_))))))))
    simp only [if_true]
    refine Ev.bind (likeMods_self w (by omega)) ?_
    simp only [if_true]
    refine Ev.bind (likeMods_self d (by omega)) ?_
    simp only [if_true, bne_self_eq_false]
    have j2 : Ev (fun k => laws_FnModuleChanges.j2 k l w wc) true := by
      refine Ev_shift ?_
      simp only [laws_FnModuleChanges.j2]
      by_cases c0 : wc = 0
      · obtain ⟨hm, hm2, e⟩ := w2 c0
        have hl2 := hm.2.1
        have hl1 := hm.1
        have hlen : (w.length : Int) = (l.length : Int) + 1 := by rw [e]; simp
        obtain ⟨⟨g, gc⟩, _, gi, _, g2, g3⟩ := drop_val w (l.length : Int) (by omega)
        rw [e] at g3
        have gz := g3 hm2 (by omega) (by simp only [List.length_append, List.length_singleton]; omega)
        simp only at gz g2
        have ge := (g2 gz).2.2.2
        rw [e, drop_last hm2] at ge
        simp only [if_pos c0]
        refine Ev.bind gi ?_
        simp only [if_pos gz, ge]
        refine Ev.bind (likeMods_self l (by omega)) ?_
        simp only [if_true]
        have am := impl_AreModules_ev w (by omega)
        rw [e, tt_pos hm2] at am
        rw [e]
        exact Ev.bind am (Ev.now _)
      · simp only [if_neg c0]
        exact Ev.now _
    have j1 : Ev (fun k => laws_FnModuleChanges.j1 k l w wc y a b n nc) true := by
      refine Ev_shift ?_
      simp only [laws_FnModuleChanges.j1]
      by_cases c0 : nc = 0
      · obtain ⟨hm, ha, hbb, e⟩ := n1 c0
        obtain ⟨z, z1, z2, _, zs, zi⟩ := mcode1 y (by omega) a
        obtain ⟨u, u1, u2, _, us, ui⟩ := mcode1 y (by omega) b
        obtain ⟨⟨va, vac⟩, vai, va1, va2, va3⟩ := wayi_val z1 zi
        obtain ⟨⟨vb, vbc⟩, vbi, vb1, vb2, vb3⟩ := wayi_val u1 ui
        obtain ⟨⟨r, rc⟩, _, ri, r1, r2⟩ := meet_val y b a (by omega)
        have hz := z2 hm ha.1 ha.2
        have hu := u2 hm hbb.1 hbb.2
        have hr := r2 hm hbb ha
        simp only at va1 va2 va3 vb1 vb2 vb3 r1 hr
        have er := (r1 hr).2.2.2
        have mm := meet_mem hm (a + b + 1).toNat a b ha.1 ha.2 hbb.1 hbb.2 (by omega)
        have e2 : r = n := by
          rw [er, e, show b + a + 1 = a + b + 1 by omega]
          exact mm.1.symm
        simp only [if_pos c0]
        refine Ev.bind vai (Ev.bind vbi (Ev.bind ri ?_))
        simp only [va1, hz, vb1, hu, if_true]
        refine Ev.bind (hasInt_ev va (by omega) n (by rw [va2 hz, e]; exact mm.2.1)) ?_
        simp only [if_true]
        refine Ev.bind (hasInt_ev vb (by omega) n (by rw [vb2 hu, e]; exact mm.2.2)) ?_
        simp only [if_true, if_pos hr, if_pos e2]
        exact j2
      · simp only [if_neg c0]
        exact j2
    refine Ev_shift ?_
    simp only [laws_FnModuleChanges.j0, Bool.false_eq_true, if_false]
    by_cases c0 : dc = 0
    · obtain ⟨hm, k0, k1, e⟩ := d2 c0
      have hl2 := hm.2.1
      obtain ⟨z, z1, z2, _, zs, zi⟩ := mcode1 x (by omega) k
      obtain ⟨⟨bl, bc⟩, bi, b1, b2, b3⟩ := belowi_val z1 zi
      have hz := z2 hm (by omega) k1
      simp only at b1 b2 b3
      have eb := b2 hz
      have am := impl_AreModules_ev d (by omega)
      rw [e, tt_pos (dropM_pmods hm k0 k1)] at am
      have hcnt := dropM_cnt x (belowP x k) x.length 0
      have hcnt2 : (d.length : Int) + (bl.length : Int) = (x.length : Int) := by rw [e, eb]; omega
      simp only [if_pos c0]
      refine Ev.bind bi ?_
      simp only [b1, hz, if_true]
      rw [e]
      refine Ev.bind am ?_
      rw [← e]
      simp only [if_true, hcnt2, w64 (n := (x.length : Int)) (by omega)]
      exact j1
    · simp only [if_neg c0]
      exact j1
end Go.Proofs.Ytmahecjbejffoaa.Pure
