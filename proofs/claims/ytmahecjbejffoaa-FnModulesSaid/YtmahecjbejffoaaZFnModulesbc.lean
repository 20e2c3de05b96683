/- PureFnModules of the law FnModules: taken over, declaration by declaration, as far as the law leans on it (the words and the printed functions are the kit's own print). No condition but what each says. -/
import Derived.Test.YtmahecjbejffoaaZFnModulesav
import Derived.Test.YtmahecjbejffoaaZFnModulesaw
import Derived.Test.YtmahecjbejffoaaZFnModulesax
import Derived.Test.YtmahecjbejffoaaZFnModulesay
import Derived.Test.YtmahecjbejffoaaZFnModulesaz
import Derived.Test.YtmahecjbejffoaaZFnModulesba
import Derived.Test.YtmahecjbejffoaaZFnModulesbb
namespace Go.Proofs.Ytmahecjbejffoaa.Pure
open Go.RowKit Go.Proofs.Ytmahecjbejffoaa.PFnModules Go.Proofs.YtmahecjbejffoaaW.PrintWords Go.Proofs.YtmahecjbejffoaaW.PrintLast Go.Proofs.Ytmahecjbejffoaa.Opening
set_option linter.unusedVariables false
set_option linter.unusedSimpArgs false
theorem w64 {n : Int} (h : -9223372036854775808 ≤ n ∧ n ≤ 9223372036854775807) : wrap64 n = n := by
  unfold wrap64
  omega
theorem l01In_eq (a b c : Int) : spec_l01In.f a b c = some (decide (b ≤ a ∧ a ≤ c)) := by
  unfold spec_l01In.f
  by_cases h : b ≤ a <;> simp [h]
theorem within_eq (a b c : Int) : impl_within.f a b c = some (decide (b ≤ a ∧ a ≤ c)) := by
  unfold impl_within.f
  by_cases h : b ≤ a <;> simp [h]
theorem drop_cons {α : Type} {l : List α} {i : Int} {a : α} {s : List α} (z : α) (h0 : 0 ≤ i) (h : l.drop i.toNat = a :: s) : i < l.length ∧ l.getD i.toNat z = a ∧ l.drop (i + 1).toNat = s := by
  have hlt : i.toNat < l.length := by
    rcases Nat.lt_or_ge i.toNat l.length with h1 | h1
    · exact h1
    · rw [List.drop_eq_nil_of_le h1] at h; cases h
  rw [List.drop_eq_getElem_cons hlt] at h
  injection h with h1 h2
  refine ⟨by omega, ?_, ?_⟩
  · rw [List.getD_eq_getElem?_getD, List.getElem?_eq_getElem hlt]; exact h1
  · rw [show (i + 1).toNat = i.toNat + 1 by omega]; exact h2
theorem drop_nil {α : Type} {l : List α} {i : Int} (h0 : 0 ≤ i) (h : l.drop i.toNat = []) : ¬ i < (l.length : Int) := by
  have := List.drop_eq_nil_iff.1 h
  omega
theorem Ev_shift {α : Type} {g : Nat → Option α} {r : α} (h : Ev (fun k => g (k + 1)) r) : Ev g r := Ev.step (fun _ => rfl) h
theorem Ev_eq {α : Type} {g : Nat → Option α} {r q : α} (h : Ev g r) (e : r = q) : Ev g q := e ▸ h
theorem Ev_some {α : Type} {r q : α} (e : r = q) : Ev (fun _ => some r) q := e ▸ Ev.now r
noncomputable def tt (p : Prop) : Bool := @decide p (Classical.propDecidable p)
theorem tt_pos {p : Prop} (h : p) : tt p = true := by unfold tt; exact @decide_eq_true p (Classical.propDecidable p) h
theorem tt_neg {p : Prop} (h : ¬ p) : tt p = false := by unfold tt; exact @decide_eq_false p (Classical.propDecidable p) h
theorem tt_dec (p : Prop) [i : Decidable p] : tt p = decide p := by
  by_cases h : p
  · rw [tt_pos h, decide_eq_true h]
  · rw [tt_neg h, decide_eq_false h]
theorem tt_iff {p q : Prop} (h : p ↔ q) : tt p = tt q := by rw [propext h]
theorem tt_and (p q : Prop) : (tt p && tt q) = tt (p ∧ q) := by
  by_cases h : p
  · rw [tt_pos h, Bool.true_and]; exact tt_iff ⟨fun x => ⟨h, x⟩, fun x => x.2⟩
  · rw [tt_neg h, Bool.false_and, tt_neg (fun x => h x.1)]
theorem ev_all {L : Int → Nat → Option Bool} {P : Int → Prop} {n : Int} {fin : Bool} (h1 : ∀ i, 0 ≤ i → i < n → P i → ∀ r, Ev (L (i + 1)) r → Ev (L i) r) (h2 : ∀ i, 0 ≤ i → i < n → ¬ P i → Ev (L i) false) (h3 : Ev (L n) fin) :
    ∀ (d : Nat) (i : Int), 0 ≤ i → i + d = n → Ev (L i) (fin && tt (∀ j, i ≤ j → j < n → P j))
  | 0, i, h0, hd => by
    have e : i = n := by omega
    rw [e, tt_pos (fun j h1 h2 => by omega), Bool.and_true]
    exact h3
  | d + 1, i, h0, hd => by
    by_cases hp : P i
    · have := h1 i h0 (by omega) hp _ (ev_all h1 h2 h3 d (i + 1) (by omega) (by omega))
      refine Ev_eq this ?_
      congr 1
      exact tt_iff ⟨fun h j h1 h2 => by
        by_cases e : j = i
        · rw [e]; exact hp
        · exact h j (by omega) h2, fun h j h1 h2 => h j (by omega) h2⟩
    · rw [tt_neg (fun h => hp (h i (Int.le_refl _) (by omega))), Bool.and_false]
      exact h2 i h0 (by omega) hp
/-- The numbers from i on, d of them looked at, that are told true. -/
def idxF (p : Int → Bool) : Nat → Int → List Int
  | 0, _ => []
  | d + 1, i => if p i = true then i :: idxF p d (i + 1) else idxF p d (i + 1)
theorem idxF_length (p : Int → Bool) : ∀ (d : Nat) (i : Int), (idxF p d i).length ≤ d
  | 0, _ => Nat.le_refl _
  | d + 1, i => by
    unfold idxF
    have := idxF_length p d (i + 1)
    split
    · simp only [List.length_cons]
      omega
    · omega
theorem ev_filter {ρ : Type} {L : Int → List Int → Nat → Option ρ} {p : Int → Bool} {n : Int} {fin : List Int → ρ}
    (h1 : ∀ (i : Int) (out : List Int), 0 ≤ i → i < n → (out.length : Int) ≤ i → p i = true → ∀ r, Ev (L (i + 1) (out ++ [i])) r → Ev (L i out) r)
    (h2 : ∀ (i : Int) (out : List Int), 0 ≤ i → i < n → (out.length : Int) ≤ i → p i = false → ∀ r, Ev (L (i + 1) out) r → Ev (L i out) r)
    (h3 : ∀ out : List Int, (out.length : Int) ≤ n → Ev (L n out) (fin out)) :
    ∀ (d : Nat) (i : Int) (out : List Int), 0 ≤ i → i + d = n → (out.length : Int) ≤ i → Ev (L i out) (fin (out ++ idxF p d i))
  | 0, i, out, h0, hd, hl => by
    have e : i = n := by omega
    subst e
    simp only [idxF, List.append_nil]
    exact h3 out hl
  | d + 1, i, out, h0, hd, hl => by
    unfold idxF
    cases hp : p i with
    | true =>
      refine h1 i out h0 (by omega) hl hp _ ?_
      have := ev_filter h1 h2 h3 d (i + 1) (out ++ [i]) (by omega) (by omega) (by simp; omega)
      simpa using this
    | false =>
      refine h2 i out h0 (by omega) hl hp _ ?_
      have := ev_filter h1 h2 h3 d (i + 1) out (by omega) (by omega) (by omega)
      simpa using this
theorem getD_at_mid {α : Type} (z : α) (p : List α) (b : α) (s : List α) : (p ++ b :: s).getD ((p.length : Int)).toNat z = b := by
  rw [Int.toNat_natCast, List.getD_eq_getElem?_getD, List.getElem?_append_right (Nat.le_refl _)]
  simp
theorem rd_mem {l : List Int} {i : Int} (h0 : 0 ≤ i) (h1 : i < l.length) : rd l i ∈ l := by
  have hlt : i.toNat < l.length := by omega
  have e : rd l i = l[i.toNat] := by
    show l.getD i.toNat _ = _
    rw [List.getD_eq_getElem?_getD, List.getElem?_eq_getElem hlt]
    rfl
  rw [e]
  exact List.getElem_mem hlt
/-- A source of drawn numbers. -/
def Src (c : List Int) (a s : Int) : Prop := (0 ≤ a ∧ a ≤ c.length ∧ c.length ≤ 4096) ∧ (0 ≤ s ∧ s < 2147483647) ∧ ∀ x ∈ c, 0 ≤ x ∧ x ≤ 255
theorem next_some {c : List Int} {a s : Int} (h : Src c a s) (n : Int) (hn : n ≤ 1000000000000) : ∃ v a' s', spec_l01Next.f c a s n = some (v, a', s') ∧ Src c a' s' ∧ 0 ≤ v ∧ (v < n ∨ v = 0) := by
  have ha := h.1
  have hs := h.2.1
  unfold spec_l01Next.f
  by_cases c1 : n ≤ 1
  · rw [if_pos c1]
    exact ⟨0, a, s, rfl, h, by omega, .inr rfl⟩
  · rw [if_neg c1]
    have w1 : wrap64 (wrap64 (s * 48271) + 29) = s * 48271 + 29 := by rw [w64 (n := s * 48271) (by omega), w64 (by omega)]
    obtain ⟨e, he⟩ : ∃ e, Int.tmod (s * 48271 + 29) 2147483647 = e := ⟨_, rfl⟩
    have e0 : 0 ≤ e := he ▸ Int.tmod_nonneg _ (by omega)
    have e1 : e < 2147483647 := he ▸ Int.tmod_lt_of_pos _ (by omega)
    obtain ⟨q, hq⟩ : ∃ q, Int.tdiv e 31 = q := ⟨_, rfl⟩
    have q0 : 0 ≤ q ∧ q ≤ e := by
      rw [← hq, Int.tdiv_eq_ediv_of_nonneg e0]
      omega
    have src : ∀ a' : Int, 0 ≤ a' → a' ≤ (c.length : Int) → Src c a' e := fun a' h0 h1 => ⟨⟨h0, h1, ha.2.2⟩, ⟨e0, e1⟩, h.2.2⟩
    have md : ∀ x, 0 ≤ x → 0 ≤ Int.tmod x n ∧ Int.tmod x n < n := fun x hx => ⟨Int.tmod_nonneg _ hx, Int.tmod_lt_of_pos _ (by omega)⟩
    by_cases c2 : a < c.length
    · have hr := h.2.2 (rd c a) (rd_mem ha.1 c2)
      simp only [w1, he, hq, w64 (n := q) (by omega), if_pos c2, if_pos ha.1, w64 (n := a + 1) (by omega), w64 (n := a + 1 - 1) (by omega), show a + 1 - 1 = a by omega, w64 (n := a) (by omega), w64 (n := rd c a) (by omega), w64 (n := q + rd c a) (by omega), if_neg (show ¬ n = 0 by omega)]
      have m1 := md (rd c a) hr.1
      have m2 := md (q + rd c a) (by omega)
      by_cases c3 : n ≤ 256
      · by_cases c4 : Int.tmod (a + 1) 2 = 0
        · simp only [if_pos c3, if_pos c4]
          exact ⟨_, a + 1, e, rfl, src (a + 1) (by omega) (by omega), m1.1, .inl m1.2⟩
        · simp only [if_pos c3, if_neg c4]
          exact ⟨_, a + 1, e, rfl, src (a + 1) (by omega) (by omega), m2.1, .inl m2.2⟩
      · simp only [if_neg c3]
        exact ⟨_, a + 1, e, rfl, src (a + 1) (by omega) (by omega), m2.1, .inl m2.2⟩
    · have m3 := md q q0.1
      simp only [w1, he, hq, w64 (n := q) (by omega), if_neg c2, if_neg (show ¬ n = 0 by omega)]
      exact ⟨_, a, e, rfl, src a ha.1 ha.2.1, m3.1, .inl m3.2⟩
theorem pick_some {c : List Int} {a s : Int} (h : Src c a s) (l : List Int) (h1 : 1 ≤ l.length) (h2 : l.length ≤ 1000) : ∃ v a' s', spec_l01Pick.f c a s l = some (v, a', s') ∧ Src c a' s' ∧ v ∈ l := by
  obtain ⟨v, a', s', e, hs, h0, hv⟩ := next_some h l.length (by omega)
  refine ⟨rd l v, a', s', ?_, hs, rd_mem h0 (by omega)⟩
  unfold spec_l01Pick.f
  rw [e]
  simp only [Option.bind_some]
  rw [if_pos h0, if_pos (by omega)]
theorem from_l0 (c : List Int) (hc : c.length ≤ 4096) (hb : ∀ x ∈ c, 0 ≤ x ∧ x ≤ 255) : ∀ (d : Nat) (i s : Int), 0 ≤ i → i + d = c.length → 0 ≤ s → s < 2147483647 → ∃ s', Ev (fun k => spec_l01From.l0 k c i c 0 s) (c, 0, s') ∧ Src c 0 s'
  | 0, i, s, h0, hd, s0, s1 => by
    refine ⟨s, Ev_shift ?_, ⟨by omega, by omega, hc⟩, ⟨s0, s1⟩, hb⟩
    simp only [spec_l01From.l0, if_neg (show ¬ i < (c.length : Int) by omega)]
    exact Ev.now _
  | d + 1, i, s, h0, hd, s0, s1 => by
    have hi : i < (c.length : Int) := by omega
    have hr := hb (rd c i) (rd_mem h0 hi)
    by_cases c2 : i < 64
    · obtain ⟨s', e, hs⟩ := from_l0 c hc hb d (i + 1) (Int.tmod (s * 83 + rd c i) 2147483647) (by omega) (by omega) (Int.tmod_nonneg _ (by omega)) (Int.tmod_lt_of_pos _ (by omega))
      refine ⟨s', Ev_shift ?_, hs⟩
      simp only [spec_l01From.l0, if_pos hi, if_pos c2, if_pos h0, w64 (n := i + 1) (by omega), w64 (n := s * 83) (by omega), w64 (n := rd c i) (by omega), w64 (n := s * 83 + rd c i) (by omega)]
      exact e
    · refine ⟨s, Ev_shift ?_, ⟨by omega, by omega, hc⟩, ⟨s0, s1⟩, hb⟩
      simp only [spec_l01From.l0, if_pos hi, if_neg c2]
      exact Ev.now _
theorem from_ev (c : List Int) (hc : c.length ≤ 4096) (hb : ∀ x ∈ c, 0 ≤ x ∧ x ≤ 255) : ∃ s, Ev (fun k => spec_l01From.f k c) (c, 0, s) ∧ Src c 0 s := by
  unfold spec_l01From.f
  exact from_l0 c hc hb c.length 0 61043 (by omega) (by omega) (by omega) (by omega)
theorem u8_rng {l : List Int} (h : ∀ x ∈ l, (Lit.int .u8 x).wf = true) : ∀ x ∈ l, 0 ≤ x ∧ x ≤ 255 := by
  intro x hx
  have := h x hx
  simp only [Lit.wf, Bool.and_eq_true, decide_eq_true_eq] at this
  have h1 : IntKind.min .u8 = 0 := by decide
  have h2 : IntKind.max .u8 = 255 := by decide
  rw [h1, h2] at this
  exact this
theorem likeInts_l0 (l : List Int) (hl : l.length ≤ 10000000) : ∀ (d : Nat) (i : Int), 0 ≤ i → i + d = l.length → Ev (fun k => laws_likeInts.l0 k l l i) true
  | 0, i, h0, hd => by
    refine Ev_shift ?_
    simp only [laws_likeInts.l0, if_neg (show ¬ i < (l.length : Int) by omega)]
    exact Ev.now _
  | d + 1, i, h0, hd => by
    refine Ev_shift ?_
    simp only [laws_likeInts.l0, if_pos (show i < (l.length : Int) by omega), if_pos h0, if_true, w64 (n := i + 1) (by omega)]
    exact likeInts_l0 l hl d (i + 1) (by omega) (by omega)
theorem likeInts_self (l : List Int) (hl : l.length ≤ 10000000) : Ev (fun k => laws_likeInts.f k l l) true := by
  unfold laws_likeInts.f
  simp only [if_true]
  exact likeInts_l0 l hl l.length 0 (by omega) (by omega)
theorem hasInt_l0 (l : List Int) (hn : l.length ≤ 1000000) (x : Int) : ∀ (s : List Int) (i : Int), 0 ≤ i → l.drop i.toNat = s → x ∈ s → Ev (fun k => laws_hasInt.l0 k l x i) true
  | [], i, h0, h, hx => by simp at hx
  | a :: s, i, h0, h, hx => by
    refine Ev_shift ?_
    obtain ⟨h1, h2, h3⟩ := drop_cons 0 h0 h
    have h2' : rd l i = a := h2
    by_cases e : a = x
    · simp only [laws_hasInt.l0, if_pos h1, if_pos h0, h2', if_pos e]
      exact Ev.now _
    · simp only [laws_hasInt.l0, if_pos h1, if_pos h0, h2', if_neg e, w64 (n := i + 1) (by omega)]
      exact hasInt_l0 l hn x s (i + 1) (by omega) h3 (by
        rcases List.mem_cons.1 hx with rfl | hx
        · exact absurd rfl e
        · exact hx)
theorem hasInt_ev (l : List Int) (hn : l.length ≤ 1000000) (x : Int) (hx : x ∈ l) : Ev (fun k => laws_hasInt.f k l x) true := by
  unfold laws_hasInt.f
  exact hasInt_l0 l hn x l 0 (by omega) rfl hx
/-- A module's own numbers are right at its place. -/
def PM (l : List S47) (i : Int) : Prop := 0 ≤ (rd_T47 l i).f1 ∧ (rd_T47 l i).f1 ≤ 32 ∧ (i = 0 → (rd_T47 l i).f0 = -1) ∧ (0 < i → 0 ≤ (rd_T47 l i).f0 ∧ (rd_T47 l i).f0 ≤ i - 1)
def PMods (l : List S47) : Prop := 1 ≤ l.length ∧ l.length ≤ 12 ∧ ∀ j : Int, 0 ≤ j → j < l.length → PM l j
theorem spec_AreModules_ev (l : List S47) (hn : l.length ≤ 140737488351232) : Ev (fun k => spec_AreModules.f k l) (tt (PMods l)) := by
  unfold spec_AreModules.f
  have := ev_all (L := fun i k => spec_AreModules.l0 k l i) (P := PM l) (n := l.length) (fin := decide (1 ≤ l.length ∧ l.length ≤ 12)) (fun i h0 h1 hp r hr => ?_) (fun i h0 h1 hp => ?_) ?_ l.length 0 (by omega) (by omega)
  · refine Ev_eq this ?_
    rw [← tt_dec, tt_and]
    exact tt_iff ⟨fun h => ⟨h.1.1, h.1.2, fun j h0 h1 => h.2 j h0 h1⟩, fun h => ⟨⟨h.1, h.2.1⟩, fun j h0 h1 => h.2.2 j h0 h1⟩⟩
  · refine Ev_shift ?_
    unfold PM at hp
    simp only [spec_AreModules.l0, if_pos h1, if_pos h0, l01In_eq, Option.bind_some]
    simp only [decide_eq_true_eq]
    simp only [if_pos (And.intro hp.1 hp.2.1)]
    rw [w64 (n := i + 1) (by omega)]
    by_cases h : i = 0
    · simp only [if_pos h, if_pos (hp.2.2.1 h), if_neg (show ¬ i > 0 by omega)]
      exact hr
    · simp only [if_neg h, if_pos (show i > 0 by omega), w64 (n := i - 1) (by omega)]
      have := hp.2.2.2 (by omega)
      simp only [if_pos this]
      exact hr
  · refine Ev_shift ?_
    unfold PM at hp
    simp only [spec_AreModules.l0, if_pos h1, if_pos h0, l01In_eq, Option.bind_some]
    simp only [decide_eq_true_eq]
    by_cases hq : 0 ≤ (rd_T47 l i).f1 ∧ (rd_T47 l i).f1 ≤ 32
    · simp only [if_pos hq]
      by_cases h : i = 0
      · by_cases h2 : (rd_T47 l i).f0 = -1
        · exact absurd ⟨hq.1, hq.2, fun _ => h2, fun h => by omega⟩ hp
        · simp only [if_pos h, if_neg h2]
          exact Ev.now _
      · simp only [if_neg h, if_pos (show i > 0 by omega), w64 (n := i - 1) (by omega)]
        by_cases h2 : 0 ≤ (rd_T47 l i).f0 ∧ (rd_T47 l i).f0 ≤ i - 1
        · exact absurd ⟨hq.1, hq.2, fun h => by omega, fun _ => h2⟩ hp
        · simp only [if_neg h2]
          exact Ev.now _
    · simp only [if_neg hq]
      exact Ev.now _
  · refine Ev_shift ?_
    simp only [spec_AreModules.l0, if_neg (show ¬ (l.length : Int) < l.length by omega), l01In_eq, Option.bind_some]
    exact Ev_some (by congr 1; exact propext ⟨fun h => by omega, fun h => by omega⟩)
theorem impl_AreModules_l0 (l : List S47) (hn : l.length ≤ 140737488351232) (hz : (rd_T47 l 0).f0 = -1) : Ev (fun k => impl_AreModules.l0 k l l.length 0) (tt (∀ j : Int, 0 ≤ j → j < l.length → PM l j)) := by
  have := ev_all (L := fun i k => impl_AreModules.l0 k l l.length i) (P := PM l) (n := l.length) (fin := true) (fun i h0 h1 hp r hr => ?_) (fun i h0 h1 hp => ?_) ?_ l.length 0 (by omega) (by omega)
  · refine Ev_eq this ?_
    rw [Bool.true_and]
  · refine Ev_shift ?_
    unfold PM at hp
    simp only [impl_AreModules.l0, if_pos h1, if_pos h0, within_eq, Option.bind_some]
    simp only [decide_eq_true_eq]
    simp only [if_pos (And.intro hp.1 hp.2.1)]
    rw [w64 (n := i + 1) (by omega)]
    by_cases h : i = 0
    · simp only [if_neg (show ¬ i > 0 by omega)]
      exact hr
    · simp only [if_pos (show i > 0 by omega), w64 (n := i - 1) (by omega)]
      have := hp.2.2.2 (by omega)
      simp only [if_pos this]
      exact hr
  · refine Ev_shift ?_
    unfold PM at hp
    simp only [impl_AreModules.l0, if_pos h1, if_pos h0, within_eq, Option.bind_some]
    simp only [decide_eq_true_eq]
    by_cases hq : 0 ≤ (rd_T47 l i).f1 ∧ (rd_T47 l i).f1 ≤ 32
    · simp only [if_pos hq]
      by_cases h : i = 0
      · exact absurd ⟨hq.1, hq.2, fun h => by rw [h]; exact hz, fun h => by omega⟩ hp
      · simp only [if_pos (show i > 0 by omega), w64 (n := i - 1) (by omega)]
        by_cases h2 : 0 ≤ (rd_T47 l i).f0 ∧ (rd_T47 l i).f0 ≤ i - 1
        · exact absurd ⟨hq.1, hq.2, fun h => by omega, fun _ => h2⟩ hp
        · simp only [if_neg h2]
          exact Ev.now _
    · simp only [if_neg hq]
      exact Ev.now _
  · refine Ev_shift ?_
    simp only [impl_AreModules.l0, if_neg (show ¬ (l.length : Int) < l.length by omega)]
    exact Ev.now _
theorem impl_AreModules_ev (l : List S47) (hn : l.length ≤ 140737488351232) : Ev (fun k => impl_AreModules.f k l) (tt (PMods l)) := by
  unfold impl_AreModules.f
  have bad : ∀ {q : Prop}, ¬ q → (q ↔ PMods l) → Ev (fun k => impl_AreModules.j0 k l true) (tt (PMods l)) := by
    intro q hq e
    refine Ev_shift ?_
    simp only [impl_AreModules.j0, if_true]
    exact Ev_some (tt_neg (fun h => hq (e.2 h))).symm
  by_cases h1 : (l.length : Int) < 1
  · simp only [if_pos h1]
    exact bad (q := False) (fun h => h) ⟨fun h => h.elim, fun h => by have := h.1; omega⟩
  · simp only [if_neg h1]
    by_cases h2 : (l.length : Int) > 12
    · simp only [if_pos h2]
      exact bad (q := False) (fun h => h) ⟨fun h => h.elim, fun h => by have := h.2.1; omega⟩
    · simp only [if_neg h2, if_pos (show 0 < (l.length : Int) by omega)]
      by_cases hz : (rd_T47 l 0).f0 = -1
      · rw [hz]
        refine Ev_shift ?_
        simp only [impl_AreModules.j0, bne_self_eq_false, Bool.false_eq_true, if_false]
        refine Ev_eq (impl_AreModules_l0 l hn hz) (tt_iff ⟨fun h => ⟨by omega, by omega, h⟩, fun h => h.2.2⟩)
      · have e : ((rd_T47 l 0).f0 != -1) = true := by simpa using hz
        rw [e]
        exact bad (q := False) (fun h => h) ⟨fun h => h.elim, fun h => hz ((h.2.2 0 (by omega) (by omega)).2.2.1 rfl)⟩
theorem parent_lt {l : List S47} (h : PMods l) {m : Int} (h0 : 0 ≤ m) (h1 : m < l.length) : -1 ≤ (rd_T47 l m).f0 ∧ (rd_T47 l m).f0 < m := by
  have := h.2.2 m h0 h1
  unfold PM at this
  by_cases e : m = 0
  · have := this.2.2.1 e
    omega
  · have := this.2.2.2 (by omega)
    omega
/-- A module and all above it. -/
def wayF (l : List S47) : Nat → Int → List Int
  | 0, _ => []
  | n + 1, m => if 0 ≤ m then m :: wayF l n (rd_T47 l m).f0 else []
theorem wayF_length (l : List S47) : ∀ (n : Nat) (m : Int), (wayF l n m).length ≤ n
  | 0, _ => Nat.le_refl _
  | n + 1, m => by
    unfold wayF
    split
    · simp only [List.length_cons]
      have := wayF_length l n (rd_T47 l m).f0
      omega
    · simp
theorem spec_way_l0 {l : List S47} (h : PMods l) : ∀ (n : Nat) (m : Int) (out : List Int), -1 ≤ m → m < l.length → m + 1 ≤ n → out.length + n ≤ 1000 → Ev (fun k => spec_l12Way.l0 k l m out) (out ++ wayF l n m)
  | 0, m, out, h0, h1, h2, h3 => by
    refine Ev_shift ?_
    simp only [spec_l12Way.l0, if_neg (show ¬ m ≥ 0 by omega)]
    exact Ev_some (by simp [wayF])
  | n + 1, m, out, h0, h1, h2, h3 => by
    refine Ev_shift ?_
    by_cases hm : m ≥ 0
    · have hp := parent_lt h hm h1
      simp only [spec_l12Way.l0, if_pos hm, if_pos (show out.length < 17592186044416 by omega), if_pos (show 0 ≤ m from hm), if_pos h1]
      refine Ev_eq (spec_way_l0 h n _ (out ++ [m]) hp.1 (by omega) (by omega) (by simp; omega)) ?_
      simp [wayF, hm]
    · simp only [spec_l12Way.l0, if_neg hm]
      exact Ev_some (by simp [wayF, show ¬ 0 ≤ m from hm])
theorem spec_way {l : List S47} (h : PMods l) {m : Int} (h0 : 0 ≤ m) (h1 : m < l.length) : Ev (fun k => spec_l12Way.f k l m) (wayF l 12 m) := by
  unfold spec_l12Way.f
  have := h.2.1
  exact spec_way_l0 h 12 m [] (by omega) h1 (by omega) (by simp)
theorem impl_way_l0 {l : List S47} (h : PMods l) : ∀ (n : Nat) (m : Int) (out : List Int), -1 ≤ m → m < l.length → m + 1 ≤ n → out.length + n ≤ 1000 → Ev (fun k => impl_wayToMaster.l0 k l m out) (out ++ wayF l n m)
  | 0, m, out, h0, h1, h2, h3 => by
    refine Ev_shift ?_
    simp only [impl_wayToMaster.l0, if_neg (show ¬ m ≥ 0 by omega)]
    exact Ev_some (by simp [wayF])
  | n + 1, m, out, h0, h1, h2, h3 => by
    refine Ev_shift ?_
    by_cases hm : m ≥ 0
    · have hp := parent_lt h hm h1
      simp only [impl_wayToMaster.l0, if_pos hm, if_pos (show out.length < 17592186044416 by omega), if_pos (show 0 ≤ m from hm), if_pos h1]
      refine Ev_eq (impl_way_l0 h n _ (out ++ [m]) hp.1 (by omega) (by omega) (by simp; omega)) ?_
      simp [wayF, hm]
    · simp only [impl_wayToMaster.l0, if_neg hm]
      exact Ev_some (by simp [wayF, show ¬ 0 ≤ m from hm])
theorem impl_way {l : List S47} (h : PMods l) {m : Int} (h0 : 0 ≤ m) (h1 : m < l.length) : Ev (fun k => impl_wayToMaster.f k l m) (wayF l 12 m) := by
  unfold impl_wayToMaster.f
  have := h.2.1
  exact impl_way_l0 h 12 m [] (by omega) h1 (by omega) (by simp)
theorem spec_l12Code_ev (l : List S47) (hn : l.length ≤ 140737488351232) (m : Int) : (PMods l → 0 ≤ m → m < l.length → Ev (fun k => spec_l12Code.f k l m) 0) ∧ (PMods l → ¬ (0 ≤ m ∧ m < l.length) → Ev (fun k => spec_l12Code.f k l m) 2) ∧ (¬ PMods l → Ev (fun k => spec_l12Code.f k l m) 1) := by
  unfold spec_l12Code.f
  have w : wrap64 ((l.length : Int) - 1) = (l.length : Int) - 1 := w64 (by omega)
  refine ⟨fun h h0 h1 => ?_, fun h hm => ?_, fun h => ?_⟩
  · refine Ev.bind (spec_AreModules_ev l hn) ?_
    simp only [tt_pos h, if_true, w, l01In_eq, Option.bind_some, decide_eq_true_eq, if_pos (show 0 ≤ m ∧ m ≤ (l.length : Int) - 1 by omega)]
    exact Ev.now _
  · refine Ev.bind (spec_AreModules_ev l hn) ?_
    simp only [tt_pos h, if_true, w, l01In_eq, Option.bind_some, decide_eq_true_eq, if_neg (show ¬ (0 ≤ m ∧ m ≤ (l.length : Int) - 1) by omega)]
    exact Ev.now _
  · refine Ev.bind (spec_AreModules_ev l hn) ?_
    simp only [tt_neg h, Bool.false_eq_true, if_false]
    exact Ev.now _
theorem isIndex_eq {a n : Int} (hn : 0 ≤ n ∧ n ≤ 140737488351232) : impl_isIndex.f a n = some (decide (0 ≤ a ∧ a < n)) := by
  unfold impl_isIndex.f
  rw [w64 (by omega), within_eq, Option.bind_some]
  congr 1
  exact decide_eq_decide.2 ⟨fun h => by omega, fun h => by omega⟩
theorem asked_l0 (l : List S47) (hn : l.length ≤ 140737488351232) (xs : List Int) (hx : xs.length ≤ 140737488351232) : ∀ (s : List Int) (i : Int), 0 ≤ i → xs.drop i.toNat = s → Ev (fun k => impl_moduleAsked.l0 k l xs xs.length i) (if ∀ x ∈ s, 0 ≤ x ∧ x < (l.length : Int) then 0 else 2)
  | [], i, h0, h => by
    refine Ev_shift ?_
    simp only [impl_moduleAsked.l0, if_neg (drop_nil h0 h)]
    exact Ev_some (by simp)
  | a :: s, i, h0, h => by
    refine Ev_shift ?_
    obtain ⟨h1, h2, h3⟩ := drop_cons 0 h0 h
    have h2' : rd xs i = a := h2
    simp only [impl_moduleAsked.l0, if_pos h1, if_pos h0, h2', isIndex_eq (n := (l.length : Int)) (by omega), Option.bind_some, decide_eq_true_eq, w64 (n := i + 1) (by omega)]
    by_cases c : 0 ≤ a ∧ a < (l.length : Int)
    · simp only [if_pos c]
      refine Ev_eq (asked_l0 l hn xs hx s (i + 1) (by omega) h3) ?_
      simp only [List.mem_cons, forall_eq_or_imp, c, true_and]
    · simp only [if_neg c]
      refine Ev_some ?_
      rw [if_neg (fun hh => c (hh a (by simp)))]
theorem impl_moduleAsked_ev (l : List S47) (hn : l.length ≤ 140737488351232) (xs : List Int) (hx : xs.length ≤ 140737488351232) : (PMods l → (∀ x ∈ xs, 0 ≤ x ∧ x < (l.length : Int)) → Ev (fun k => impl_moduleAsked.f k l xs) 0) ∧ (PMods l → ¬ (∀ x ∈ xs, 0 ≤ x ∧ x < (l.length : Int)) → Ev (fun k => impl_moduleAsked.f k l xs) 2) ∧ (¬ PMods l → Ev (fun k => impl_moduleAsked.f k l xs) 1) := by
  unfold impl_moduleAsked.f
  have h0 := asked_l0 l hn xs hx xs 0 (by omega) rfl
  refine ⟨fun h hm => ?_, fun h hm => ?_, fun h => ?_⟩
  · refine Ev.bind (impl_AreModules_ev l hn) ?_
    simp only [tt_pos h, if_true]
    exact Ev_eq h0 (if_pos hm)
  · refine Ev.bind (impl_AreModules_ev l hn) ?_
    simp only [tt_pos h, if_true]
    exact Ev_eq h0 (if_neg hm)
  · refine Ev.bind (impl_AreModules_ev l hn) ?_
    simp only [tt_neg h, Bool.false_eq_true, if_false]
    exact Ev.now _
theorem way_le {l : List S47} (h : PMods l) : ∀ (n : Nat) (m x : Int), -1 ≤ m → m < l.length → x ∈ wayF l n m → 0 ≤ x ∧ x ≤ m
  | 0, m, x, h0, h1, hx => by simp [wayF] at hx
  | n + 1, m, x, h0, h1, hx => by
    unfold wayF at hx
    split at hx
    · rename_i hm
      have hp := parent_lt h hm h1
      rcases List.mem_cons.1 hx with e | hx
      · omega
      · have := way_le h n _ x hp.1 (by omega) hx
        omega
    · simp at hx
theorem way_mem_step {l : List S47} (h : PMods l) {n : Nat} {m x : Int} (h0 : 0 ≤ m) (h1 : m < l.length) : x ∈ wayF l (n + 1) m ↔ x = m ∨ x ∈ wayF l n (rd_T47 l m).f0 := by
  show x ∈ (if 0 ≤ m then m :: wayF l n (rd_T47 l m).f0 else []) ↔ _
  rw [if_pos h0]
  simp
theorem way_more {l : List S47} (h : PMods l) : ∀ (n k : Nat) (m : Int), -1 ≤ m → m < l.length → m + 1 ≤ n → n ≤ k → wayF l k m = wayF l n m
  | 0, 0, m, _, _, _, _ => rfl
  | 0, k + 1, m, h0, h1, h2, h3 => by
    unfold wayF
    rw [if_neg (by omega)]
  | n + 1, 0, m, h0, h1, h2, h3 => by omega
  | n + 1, k + 1, m, h0, h1, h2, h3 => by
    unfold wayF
    split
    · rename_i hm
      have hp := parent_lt h hm h1
      rw [way_more h n k _ hp.1 (by omega) (by omega) (by omega)]
    · rfl
theorem has_l0 (l : List Int) (hn : l.length ≤ 140737488351232) (x : Int) : ∀ (s : List Int) (i : Int), 0 ≤ i → l.drop i.toNat = s → Ev (fun k => spec_l01Has.l0 k l x i) (decide (x ∈ s))
  | [], i, h0, h => by
    refine Ev_shift ?_
    simp only [spec_l01Has.l0, if_neg (drop_nil h0 h)]
    exact Ev_some (by simp)
  | a :: s, i, h0, h => by
    refine Ev_shift ?_
    obtain ⟨h1, h2, h3⟩ := drop_cons 0 h0 h
    have h2' : rd l i = a := h2
    by_cases e : a = x
    · simp only [spec_l01Has.l0, if_pos h1, if_pos h0, h2', if_pos e]
      exact Ev_some (by simp [e])
    · simp only [spec_l01Has.l0, if_pos h1, if_pos h0, h2', if_neg e, w64 (n := i + 1) (by omega)]
      refine Ev_eq (has_l0 l hn x s (i + 1) (by omega) h3) ?_
      simp [Ne.symm e]
theorem has_ev (l : List Int) (hn : l.length ≤ 140737488351232) (x : Int) : Ev (fun k => spec_l01Has.f k l x) (decide (x ∈ l)) := by
  unfold spec_l01Has.f
  exact has_l0 l hn x l 0 (by omega) rfl
/-- Is i the module or below it? -/
def belowP (l : List S47) (m : Int) (i : Int) : Bool := decide (m ∈ wayF l 12 i)
theorem spec_below {l : List S47} (h : PMods l) (m : Int) : Ev (fun k => spec_l12Below.f k l m) (idxF (belowP l m) l.length 0) := by
  unfold spec_l12Below.f
  have hl := h.2.1
  have := ev_filter (L := fun i out k => spec_l12Below.l0 k l m out i) (p := belowP l m) (n := l.length) (fin := fun out => out)
    (fun i out h0 h1 h2 hp r hr => by
      refine Ev_shift ?_
      simp only [spec_l12Below.l0, if_pos h1]
      refine Ev.bind (spec_way h h0 h1) ?_
      refine Ev.bind (has_ev (wayF l 12 i) (by have := wayF_length l 12 i; omega) m) ?_
      have hp' : decide (m ∈ wayF l 12 i) = true := hp
      simp only [hp', if_true, if_pos (show out.length < 17592186044416 by omega), w64 (n := i + 1) (by omega)]
      exact hr)
    (fun i out h0 h1 h2 hp r hr => by
      refine Ev_shift ?_
      simp only [spec_l12Below.l0, if_pos h1]
      refine Ev.bind (spec_way h h0 h1) ?_
      refine Ev.bind (has_ev (wayF l 12 i) (by have := wayF_length l 12 i; omega) m) ?_
      have hp' : decide (m ∈ wayF l 12 i) = false := hp
      simp only [hp', Bool.false_eq_true, if_false, w64 (n := i + 1) (by omega)]
      exact hr)
    (fun out h2 => by
      refine Ev_shift ?_
      simp only [spec_l12Below.l0, if_neg (show ¬ (l.length : Int) < l.length by omega)]
      exact Ev.now _) l.length 0 [] (by omega) (by omega) (by simp)
  exact this
theorem below_step {l : List S47} (h : PMods l) {m i : Int} (h0 : 0 ≤ i) (h1 : i < l.length) : belowP l m i = (decide (m = i) || (decide (0 ≤ (rd_T47 l i).f0) && belowP l m (rd_T47 l i).f0)) := by
  have hl := h.2.1
  have hp := parent_lt h h0 h1
  unfold belowP
  rw [← way_more h 12 14 i (by omega) h1 (by omega) (by omega), ← way_more h 12 13 (rd_T47 l i).f0 hp.1 (by omega) (by omega) (by omega)]
  have := way_mem_step (n := 13) (x := m) h h0 h1
  by_cases hz : 0 ≤ (rd_T47 l i).f0
  · simp [this, hz]
  · have e : wayF l 13 (rd_T47 l i).f0 = [] := by
      show (if 0 ≤ (rd_T47 l i).f0 then _ else _) = _
      rw [if_neg hz]
    rw [e] at this ⊢
    simp only [this]
    simp [hz]
theorem rdb_set (y : List Bool) (i j : Int) (v : Bool) (h0 : 0 ≤ i) (h1 : i < y.length) (j0 : 0 ≤ j) (j1 : j < y.length) : rdOf false (y.set i.toNat v) j = if j = i then v else rdOf false y j := by
  unfold rdOf
  rw [List.getD_eq_getElem?_getD, List.getD_eq_getElem?_getD, List.getElem?_set]
  by_cases e : j = i
  · subst e
    rw [if_pos rfl, if_pos rfl, if_pos (by omega)]
    rfl
  · rw [if_neg (by omega), if_neg e]
theorem impl_below_l0 {l : List S47} (h : PMods l) (m : Int) : ∀ (d : Nat) (i : Int) (y : List Bool), 0 ≤ i → i + d = l.length → y.length = l.length → (∀ j : Int, 0 ≤ j → j < l.length → rdOf false y j = if j < i then belowP l m j else decide (m = j)) →
    ∃ y', y'.length = l.length ∧ (∀ j : Int, 0 ≤ j → j < l.length → rdOf false y' j = belowP l m j) ∧ Ev (fun k => impl_isBelow.l0 k y l l.length i) y'
  | 0, i, y, h0, hd, hy, hj => by
    refine ⟨y, hy, fun j j0 j1 => ?_, Ev_shift ?_⟩
    · rw [hj j j0 j1, if_pos (by omega)]
    · simp only [impl_isBelow.l0, if_neg (show ¬ i < (l.length : Int) by omega)]
      exact Ev.now _
  | d + 1, i, y, h0, hd, hy, hj => by
    have hl := h.2.1
    have h1 : i < (l.length : Int) := by omega
    have hp := parent_lt h h0 h1
    have hb := below_step (m := m) h h0 h1
    have w := w64 (n := i + 1) (by omega)
    by_cases hz : (rd_T47 l i).f0 ≥ 0
    · have hpy := hj (rd_T47 l i).f0 hz (by omega)
      rw [if_pos (by omega)] at hpy
      by_cases hbp : belowP l m (rd_T47 l i).f0 = true
      · obtain ⟨y', a, b, c⟩ := impl_below_l0 h m d (i + 1) (y.set i.toNat true) (by omega) (by omega) (by simpa using hy) (fun j j0 j1 => by
          rw [rdb_set y i j true h0 (by omega) j0 (by omega)]
          by_cases e : j = i
          · rw [if_pos e, if_pos (by omega), e, hb, hbp]
            simp [show 0 ≤ (rd_T47 l i).f0 from hz]
          · rw [if_neg e, hj j j0 j1]
            by_cases g : j < i
            · rw [if_pos g, if_pos (by omega)]
            · rw [if_neg g, if_neg (by omega)])
        refine ⟨y', a, b, Ev_shift ?_⟩
        simp only [impl_isBelow.l0, if_pos h1, if_pos h0, if_pos hz, if_pos (show 0 ≤ (rd_T47 l i).f0 from hz), if_pos (show (rd_T47 l i).f0 < (y.length : Int) by omega), hpy, hbp, if_true, if_pos (show i < (y.length : Int) by omega), w]
        exact c
      · have hbp' : belowP l m (rd_T47 l i).f0 = false := by simpa using hbp
        obtain ⟨y', a, b, c⟩ := impl_below_l0 h m d (i + 1) y (by omega) (by omega) hy (fun j j0 j1 => by
          rw [hj j j0 j1]
          by_cases e : j = i
          · rw [if_neg (by omega), if_pos (by omega), e, hb, hbp']
            simp
          · by_cases g : j < i
            · rw [if_pos g, if_pos (by omega)]
            · rw [if_neg g, if_neg (by omega)])
        refine ⟨y', a, b, Ev_shift ?_⟩
        simp only [impl_isBelow.l0, if_pos h1, if_pos h0, if_pos hz, if_pos (show 0 ≤ (rd_T47 l i).f0 from hz), if_pos (show (rd_T47 l i).f0 < (y.length : Int) by omega), hpy, hbp', Bool.false_eq_true, if_false, w]
        exact c
    · obtain ⟨y', a, b, c⟩ := impl_below_l0 h m d (i + 1) y (by omega) (by omega) hy (fun j j0 j1 => by
        rw [hj j j0 j1]
        by_cases e : j = i
        · rw [if_neg (by omega), if_pos (by omega), e, hb]
          simp [show ¬ 0 ≤ (rd_T47 l i).f0 from hz]
        · by_cases g : j < i
          · rw [if_pos g, if_pos (by omega)]
          · rw [if_neg g, if_neg (by omega)])
      refine ⟨y', a, b, Ev_shift ?_⟩
      simp only [impl_isBelow.l0, if_pos h1, if_pos h0, if_neg hz, w]
      exact c
theorem impl_below {l : List S47} (h : PMods l) {m : Int} (m0 : 0 ≤ m) (m1 : m < l.length) : ∃ y : List Bool, y.length = l.length ∧ (∀ j : Int, 0 ≤ j → j < l.length → rdOf false y j = belowP l m j) ∧ Ev (fun k => impl_isBelow.f k l m) y := by
  have hl := h.2.1
  obtain ⟨y, a, b, c⟩ := impl_below_l0 h m l.length 0 ((List.replicate l.length false).set m.toNat true) (by omega) (by omega) (by simp) (fun j j0 j1 => by
    rw [rdb_set _ m j true m0 (by simp; omega) j0 (by simp; omega), if_neg (show ¬ j < 0 by omega)]
    by_cases e : j = m
    · rw [if_pos e, e]
      simp
    · rw [if_neg e, decide_eq_false (fun hh => e hh.symm)]
      unfold rdOf
      rw [List.getD_eq_getElem?_getD, List.getElem?_replicate]
      split <;> rfl)
  refine ⟨y, a, b, ?_⟩
  unfold impl_isBelow.f
  simp only [if_pos (show 0 ≤ (l.length : Int) by omega), Int.toNat_natCast, if_pos (show l.length ≤ 281474976710656 by omega), Option.bind_some, if_pos m0, if_pos (show m < ((List.replicate l.length false).length : Int) by simp; omega)]
  exact c
/-- The pins of some modules together. -/
def pinsL (l : List S47) : List Int → Int
  | [] => 0
  | x :: s => (rd_T47 l x).f1 + pinsL l s
theorem idxF_mem (p : Int → Bool) : ∀ (d : Nat) (i x : Int), x ∈ idxF p d i ↔ i ≤ x ∧ x < i + d ∧ p x = true
  | 0, i, x => by simp [idxF]; omega
  | d + 1, i, x => by
    unfold idxF
    have ih := idxF_mem p d (i + 1) x
    by_cases hp : p i = true
    · rw [if_pos hp, List.mem_cons, ih]
      constructor
      · rintro (rfl | h)
        · exact ⟨by omega, by omega, hp⟩
        · exact ⟨by omega, by omega, h.2.2⟩
      · rintro ⟨a, b, c⟩
        by_cases e : x = i
        · exact .inl e
        · exact .inr ⟨by omega, by omega, c⟩
    · rw [if_neg hp, ih]
      constructor
      · rintro ⟨a, b, c⟩
        exact ⟨by omega, by omega, c⟩
      · rintro ⟨a, b, c⟩
        by_cases e : x = i
        · rw [e] at c
          exact absurd c hp
        · exact ⟨by omega, by omega, c⟩
theorem spec_pins_l0 {l : List S47} (h : PMods l) (b : List Int) (hb : ∀ x ∈ b, 0 ≤ x ∧ x < (l.length : Int)) (hbl : b.length ≤ 12) : ∀ (s : List Int) (i acc : Int), 0 ≤ i → b.drop i.toNat = s → 0 ≤ acc → acc + 32 * s.length ≤ 1000 → Ev (fun k => spec_PinsBelow.l0 k l acc b i) (acc + pinsL l s, 0)
  | [], i, acc, h0, hs, a0, a1 => by
    refine Ev_shift ?_
    simp only [spec_PinsBelow.l0, if_neg (drop_nil h0 hs), pinsL, Int.add_zero]
    exact Ev.now _
  | x :: s, i, acc, h0, hs, a0, a1 => by
    refine Ev_shift ?_
    obtain ⟨h1, h2, h3⟩ := drop_cons 0 h0 hs
    have h2' : rd b i = x := h2
    have hx := hb x (List.mem_of_mem_drop (by rw [hs]; simp))
    have hp := h.2.2 x hx.1 hx.2
    unfold PM at hp
    simp only [List.length_cons] at a1
    simp only [spec_PinsBelow.l0, if_pos h1, if_pos h0, h2', if_pos hx.1, if_pos hx.2, w64 (n := i + 1) (by omega), w64 (n := acc + (rd_T47 l x).f1) (by omega)]
    refine Ev_eq (spec_pins_l0 h b hb hbl s (i + 1) (acc + (rd_T47 l x).f1) (by omega) h3 (by omega) (by omega)) ?_
    simp only [pinsL]
    rw [Int.add_assoc]
theorem impl_pins_l0 {l : List S47} (h : PMods l) (m : Int) (y : List Bool) (hy : y.length = l.length) (hv : ∀ j : Int, 0 ≤ j → j < l.length → rdOf false y j = belowP l m j) : ∀ (d : Nat) (i acc : Int), 0 ≤ i → i + d = l.length → 0 ≤ acc → acc + 32 * d ≤ 1000 → Ev (fun k => impl_PinsBelow.l0 k l acc y y.length i) (acc + pinsL l (idxF (belowP l m) d i), 0)
  | 0, i, acc, h0, hd, a0, a1 => by
    refine Ev_shift ?_
    simp only [impl_PinsBelow.l0, if_neg (show ¬ i < (y.length : Int) by omega), idxF, pinsL, Int.add_zero]
    exact Ev.now _
  | d + 1, i, acc, h0, hd, a0, a1 => by
    refine Ev_shift ?_
    have hl := h.2.1
    have hp := h.2.2 i h0 (by omega)
    unfold PM at hp
    unfold idxF
    simp only [impl_PinsBelow.l0, if_pos (show i < (y.length : Int) by omega), if_pos h0, hv i h0 (by omega), w64 (n := i + 1) (by omega)]
    by_cases hb : belowP l m i = true
    · simp only [hb, if_true, if_pos (show i < (l.length : Int) by omega), w64 (n := acc + (rd_T47 l i).f1) (by omega)]
      refine Ev_eq (impl_pins_l0 h m y hy hv d (i + 1) (acc + (rd_T47 l i).f1) (by omega) (by omega) (by omega) (by omega)) ?_
      simp only [pinsL]
      rw [Int.add_assoc]
    · simp only [if_neg hb]
      exact impl_pins_l0 h m y hy hv d (i + 1) acc (by omega) (by omega) a0 (by omega)
theorem way_child {l : List S47} (h : PMods l) {m c : Int} (c0 : 0 ≤ c) (c1 : c < l.length) (hc : (rd_T47 l c).f0 = m) : wayF l 12 c = c :: wayF l 12 m := by
  have hl := h.2.1
  have hp := parent_lt h c0 c1
  rw [hc] at hp
  rw [← way_more h 12 13 c (by omega) c1 (by omega) (by omega)]
  show (if 0 ≤ c then c :: wayF l 12 (rd_T47 l c).f0 else []) = _
  rw [if_pos c0, hc]
theorem way_last {l : List S47} (h : PMods l) : ∀ (n : Nat) (m : Int), 0 ≤ m → m < l.length → m + 1 ≤ n → ∃ p, wayF l n m = p ++ [0]
  | 0, m, h0, h1, h2 => by omega
  | n + 1, m, h0, h1, h2 => by
    show ∃ p, (if 0 ≤ m then m :: wayF l n (rd_T47 l m).f0 else []) = p ++ [0]
    rw [if_pos h0]
    by_cases e : m = 0
    · have hp := h.2.2 m h0 h1
      unfold PM at hp
      have := hp.2.2.1 e
      refine ⟨[], ?_⟩
      rw [this, e]
      cases n with
      | zero => rfl
      | succ n => rfl
    · have hp := h.2.2 m h0 h1
      unfold PM at hp
      have := hp.2.2.2 (by omega)
      obtain ⟨p, hp⟩ := way_last h n _ this.1 (by omega) (by omega)
      exact ⟨m :: p, by rw [hp]; rfl⟩
theorem way_head {l : List S47} {m : Int} (h0 : 0 ≤ m) : ∃ s, wayF l 12 m = m :: s := by
  refine ⟨wayF l 11 (rd_T47 l m).f0, ?_⟩
  show (if 0 ≤ m then m :: wayF l 11 (rd_T47 l m).f0 else []) = _
  rw [if_pos h0]
theorem way_chain {l : List S47} (h : PMods l) : ∀ (n : Nat) (x a b : Int), -1 ≤ x → x < l.length → x + 1 ≤ n → n ≤ 12 → a ∈ wayF l n x → b ∈ wayF l n x → a ∈ wayF l 12 b ∨ b ∈ wayF l 12 a
  | 0, x, a, b, h0, h1, h2, h3, ha, hb => by simp [wayF] at ha
  | n + 1, x, a, b, h0, h1, h2, h3, ha, hb => by
    by_cases hx : 0 ≤ x
    · have hp := parent_lt h hx h1
      have ea := (way_mem_step h hx h1).1 ha
      have eb := (way_mem_step h hx h1).1 hb
      have up : ∀ y, y ∈ wayF l (n + 1) x → y ∈ wayF l 12 x := fun y hy => by
        rw [way_more h (n + 1) 12 x h0 h1 h2 h3]
        exact hy
      rcases ea with rfl | ea
      · exact .inr (up b hb)
      · rcases eb with rfl | eb
        · exact .inl (up a ha)
        · exact way_chain h n _ a b hp.1 (by omega) (by omega) (by omega) ea eb
    · unfold wayF at ha
      rw [if_neg hx] at ha
      simp at ha
theorem kids_apart {l : List S47} (h : PMods l) {m x a b : Int} (x0 : 0 ≤ x) (x1 : x < l.length) (a0 : 0 ≤ a) (a1 : a < l.length) (b0 : 0 ≤ b) (b1 : b < l.length) (ha : (rd_T47 l a).f0 = m) (hb : (rd_T47 l b).f0 = m) (hxa : belowP l a x = true) (hxb : belowP l b x = true) : a = b := by
  have hl := h.2.1
  have pa := parent_lt h a0 a1
  have pb := parent_lt h b0 b1
  have k := way_chain h 12 x a b (by omega) x1 (by omega) (by omega) (of_decide_eq_true hxa) (of_decide_eq_true hxb)
  rcases k with k | k
  · rw [way_child h b0 b1 hb] at k
    rcases List.mem_cons.1 k with e | k
    · exact e
    · have := way_le h 12 m a (by omega) (by omega) k
      omega
  · rw [way_child h a0 a1 ha] at k
    rcases List.mem_cons.1 k with e | k
    · exact e.symm
    · have := way_le h 12 m b (by omega) (by omega) k
      omega
theorem below_kid {l : List S47} (h : PMods l) {m : Int} (m0 : 0 ≤ m) (m1 : m < l.length) : ∀ (n : Nat) (x : Int), 0 ≤ x → x < l.length → x + 1 ≤ n → n ≤ 12 → (m ∈ wayF l n x ↔ x = m ∨ ∃ c : Int, 0 ≤ c ∧ c < l.length ∧ (rd_T47 l c).f0 = m ∧ c ∈ wayF l n x)
  | 0, x, h0, h1, h2, h3 => by omega
  | n + 1, x, h0, h1, h2, h3 => by
    have hp := parent_lt h h0 h1
    rw [way_mem_step h h0 h1]
    by_cases e : x = m
    · exact ⟨fun _ => .inl e, fun _ => .inl e.symm⟩
    · by_cases hz : 0 ≤ (rd_T47 l x).f0
      · have ih := below_kid h m0 m1 n _ hz (by omega) (by omega) (by omega)
        constructor
        · rintro (g | g)
          · exact absurd g.symm e
          · rcases ih.1 g with g | ⟨c, c0, c1, c2, c3⟩
            · exact .inr ⟨x, h0, h1, g, (way_mem_step h h0 h1).2 (.inl rfl)⟩
            · exact .inr ⟨c, c0, c1, c2, (way_mem_step h h0 h1).2 (.inr c3)⟩
        · rintro (g | ⟨c, c0, c1, c2, c3⟩)
          · exact absurd g e
          · rcases (way_mem_step h h0 h1).1 c3 with g | g
            · refine .inr (ih.2 (.inl ?_))
              rw [← g, c2]
            · exact .inr (ih.2 (.inr ⟨c, c0, c1, c2, g⟩))
      · have ew : wayF l n (rd_T47 l x).f0 = [] := by
          cases n with
          | zero => rfl
          | succ n =>
            show (if 0 ≤ (rd_T47 l x).f0 then _ else _) = _
            rw [if_neg hz]
        rw [ew]
        constructor
        · rintro (g | g)
          · exact absurd g.symm e
          · simp at g
        · rintro (g | ⟨c, c0, c1, c2, c3⟩)
          · exact absurd g e
          · rcases (way_mem_step h h0 h1).1 c3 with g | g
            · rw [g] at c2
              omega
            · rw [ew] at g
              simp at g
theorem pins_or (l : List S47) (p q r : Int → Bool) : ∀ (d : Nat) (i : Int), (∀ x, i ≤ x → x < i + d → p x = (q x || r x) ∧ ¬ (q x = true ∧ r x = true)) → pinsL l (idxF p d i) = pinsL l (idxF q d i) + pinsL l (idxF r d i)
  | 0, i, h => by simp [idxF, pinsL]
  | d + 1, i, h => by
    have ih := pins_or l p q r d (i + 1) (fun x h0 h1 => h x (by omega) (by omega))
    have hi := h i (by omega) (by omega)
    unfold idxF
    rw [hi.1]
    cases hq : q i <;> cases hr : r i
    · simpa using ih
    · simp only [Bool.false_or, if_true, pinsL, Bool.false_eq_true, if_false]
      omega
    · simp only [Bool.true_or, if_true, pinsL, Bool.false_eq_true, if_false]
      omega
    · exact absurd ⟨hq, hr⟩ hi.2
theorem pins_none (l : List S47) (p : Int → Bool) : ∀ (d : Nat) (i : Int), (∀ x, i ≤ x → x < i + d → p x = false) → pinsL l (idxF p d i) = 0
  | 0, i, h => rfl
  | d + 1, i, h => by
    unfold idxF
    rw [h i (by omega) (by omega)]
    exact pins_none l p d (i + 1) (fun x h0 h1 => h x (by omega) (by omega))
theorem pins_one (l : List S47) (m : Int) : ∀ (d : Nat) (i : Int), i ≤ m → m < i + d → pinsL l (idxF (fun x => decide (x = m)) d i) = (rd_T47 l m).f1
  | 0, i, h0, h1 => by omega
  | d + 1, i, h0, h1 => by
    unfold idxF
    by_cases e : i = m
    · rw [if_pos (decide_eq_true e)]
      unfold pinsL
      rw [pins_none l _ d (i + 1) (fun x x0 x1 => decide_eq_false (by omega)), e]
      omega
    · rw [if_neg (by simpa using e)]
      exact pins_one l m d (i + 1) (by omega) (by omega)
/-- The pins below some modules together. -/
def kidsL (l : List S47) : List Int → Int
  | [] => 0
  | c :: s => pinsL l (idxF (belowP l c) l.length 0) + kidsL l s
theorem kids_any {l : List S47} (h : PMods l) (m : Int) : ∀ s : List Int, s.Nodup → (∀ c ∈ s, 0 ≤ c ∧ c < l.length ∧ (rd_T47 l c).f0 = m) → kidsL l s = pinsL l (idxF (fun x => s.any fun c => belowP l c x) l.length 0)
  | [], _, _ => by
    unfold kidsL
    exact (pins_none l _ _ _ (fun x _ _ => by simp)).symm
  | c :: s, hn, hc => by
    rw [List.nodup_cons] at hn
    have hcc := hc c (by simp)
    unfold kidsL
    rw [kids_any h m s hn.2 (fun y hy => hc y (by simp [hy]))]
    refine (pins_or l _ _ _ l.length 0 (fun x x0 x1 => ⟨by simp [List.any_cons], fun g => ?_⟩)).symm
    obtain ⟨b, hb, hbx⟩ := List.any_eq_true.1 g.2
    have hbb := hc b (by simp [hb])
    have := kids_apart h x0 (by omega) hcc.1 hcc.2.1 hbb.1 hbb.2.1 hcc.2.2 hbb.2.2 g.1 hbx
    rw [this] at hn
    exact hn.1 hb
theorem idxF_nodup (p : Int → Bool) : ∀ (d : Nat) (i : Int), (idxF p d i).Nodup
  | 0, i => List.nodup_nil
  | d + 1, i => by
    unfold idxF
    split
    · rw [List.nodup_cons]
      refine ⟨fun g => ?_, idxF_nodup p d (i + 1)⟩
      have := (idxF_mem p d (i + 1) i).1 g
      omega
    · exact idxF_nodup p d (i + 1)
theorem pins_kids {l : List S47} (h : PMods l) {m : Int} (m0 : 0 ≤ m) (m1 : m < l.length) : (rd_T47 l m).f1 + kidsL l (idxF (fun i => decide ((rd_T47 l i).f0 = m)) l.length 0) = pinsL l (idxF (belowP l m) l.length 0) := by
  have hl := h.2.1
  rw [kids_any h m _ (idxF_nodup _ _ _) (fun c hc => by
    have := (idxF_mem _ _ _ _).1 hc
    exact ⟨this.1, by omega, of_decide_eq_true this.2.2⟩)]
  rw [pins_or l (belowP l m) (fun x => decide (x = m)) (fun x => List.any (idxF (fun i => decide ((rd_T47 l i).f0 = m)) l.length 0) fun c => belowP l c x) l.length 0 ?_, pins_one l m l.length 0 m0 (by omega)]
  intro x x0 x1
  have hb := below_kid h m0 m1 12 x x0 (by omega) (by omega) (by omega)
  have key : (List.any (idxF (fun i => decide ((rd_T47 l i).f0 = m)) l.length 0) fun c => belowP l c x) = true ↔ ∃ c : Int, 0 ≤ c ∧ c < l.length ∧ (rd_T47 l c).f0 = m ∧ c ∈ wayF l 12 x := by
    rw [List.any_eq_true]
    constructor
    · rintro ⟨c, hc, hx⟩
      have := (idxF_mem _ _ _ _).1 hc
      exact ⟨c, this.1, by omega, of_decide_eq_true this.2.2, of_decide_eq_true hx⟩
    · rintro ⟨c, c0, c1, c2, c3⟩
      exact ⟨c, (idxF_mem _ _ _ _).2 ⟨c0, by omega, decide_eq_true c2⟩, decide_eq_true c3⟩
  constructor
  · unfold belowP
    rw [Bool.eq_iff_iff, Bool.or_eq_true, decide_eq_true_eq, decide_eq_true_eq]
    exact hb.trans (or_congr Iff.rfl key.symm)
  · rintro ⟨g1, g2⟩
    have e := of_decide_eq_true g1
    obtain ⟨c, c0, c1, c2, c3⟩ := key.1 g2
    have := way_le h 12 x c (by omega) (by omega) c3
    have hp := parent_lt h c0 c1
    omega
theorem mcode1 (l : List S47) (hn : l.length ≤ 140737488351232) (m : Int) : ∃ c : Int, (c = 0 → PMods l ∧ 0 ≤ m ∧ m < l.length) ∧ (PMods l → 0 ≤ m → m < l.length → c = 0) ∧ (c = 1 ↔ ¬ PMods l) ∧ Ev (fun k => spec_l12Code.f k l m) c ∧ Ev (fun k => impl_moduleAsked.f k l [m]) c := by
  have hs := spec_l12Code_ev l hn m
  have hi := impl_moduleAsked_ev l hn [m] (by simp)
  by_cases h : PMods l
  · by_cases hm : 0 ≤ m ∧ m < l.length
    · exact ⟨0, fun _ => ⟨h, hm.1, hm.2⟩, fun _ _ _ => rfl, ⟨fun e => by omega, fun x => absurd h x⟩, hs.1 h hm.1 hm.2, hi.1 h (by simpa using hm)⟩
    · exact ⟨2, fun e => by omega, fun _ a b => absurd ⟨a, b⟩ hm, ⟨fun e => by omega, fun x => absurd h x⟩, hs.2.1 h hm, hi.2.1 h (by simpa using hm)⟩
  · exact ⟨1, fun e => by omega, fun x => absurd x h, ⟨fun _ => h, fun _ => rfl⟩, hs.2.2 h, hi.2.2 h⟩
theorem depth_val {l : List S47} {m c : Int} (hc : c = 0 → PMods l ∧ 0 ≤ m ∧ m < l.length) (hs : Ev (fun k => spec_l12Code.f k l m) c) (hi : Ev (fun k => impl_moduleAsked.f k l [m]) c) : ∃ q : Int × Int, Ev (fun k => spec_DepthOf.f k l m) q ∧ Ev (fun k => impl_DepthOf.f k l m) q ∧ q.2 = c ∧ (c = 0 → q.1 = ((wayF l 12 m).length : Int) - 1) := by
  by_cases h : c = 0
  · obtain ⟨hp, h0, h1⟩ := hc h
    have hl := wayF_length l 12 m
    refine ⟨(((wayF l 12 m).length : Int) - 1, 0), ?_, ?_, h.symm, fun _ => rfl⟩
    · unfold spec_DepthOf.f
      refine Ev.bind hs ?_
      simp only [if_pos h]
      refine Ev.bind (spec_way hp h0 h1) ?_
      exact Ev_some (by rw [w64 (by omega)])
    · unfold impl_DepthOf.f
      refine Ev.bind hi ?_
      simp only [if_pos h]
      refine Ev.bind (impl_way hp h0 h1) ?_
      exact Ev_some (by rw [w64 (by omega)])
  · refine ⟨(0, c), ?_, ?_, rfl, fun e => absurd e h⟩
    · unfold spec_DepthOf.f
      refine Ev.bind hs ?_
      simp only [if_neg h]
      exact Ev.now _
    · unfold impl_DepthOf.f
      refine Ev.bind hi ?_
      simp only [if_neg h]
      exact Ev.now _
theorem way_val {l : List S47} {m c : Int} (hc : c = 0 → PMods l ∧ 0 ≤ m ∧ m < l.length) (hs : Ev (fun k => spec_l12Code.f k l m) c) (hi : Ev (fun k => impl_moduleAsked.f k l [m]) c) : ∃ q : List Int × Int, Ev (fun k => spec_WayToMaster.f k l m) q ∧ Ev (fun k => impl_WayToMaster.f k l m) q ∧ q.2 = c ∧ (c = 0 → q.1 = wayF l 12 m) ∧ q.1.length ≤ 12 := by
  by_cases h : c = 0
  · obtain ⟨hp, h0, h1⟩ := hc h
    refine ⟨(wayF l 12 m, 0), ?_, ?_, h.symm, fun _ => rfl, wayF_length l 12 m⟩
    · unfold spec_WayToMaster.f
      refine Ev.bind hs ?_
      simp only [if_pos h]
      exact Ev.bind (spec_way hp h0 h1) (Ev.now _)
    · unfold impl_WayToMaster.f
      refine Ev.bind hi ?_
      simp only [if_pos h]
      exact Ev.bind (impl_way hp h0 h1) (Ev.now _)
  · refine ⟨([], c), ?_, ?_, rfl, fun e => absurd e h, by simp⟩
    · unfold spec_WayToMaster.f
      refine Ev.bind hs ?_
      simp only [if_neg h]
      exact Ev.now _
    · unfold impl_WayToMaster.f
      refine Ev.bind hi ?_
      simp only [if_neg h]
      exact Ev.now _
theorem kids_val {l : List S47} {m c : Int} (hc : c = 0 → PMods l ∧ 0 ≤ m ∧ m < l.length) (hs : Ev (fun k => spec_l12Code.f k l m) c) (hi : Ev (fun k => impl_moduleAsked.f k l [m]) c) : ∃ q : List Int × Int, Ev (fun k => spec_ChildrenOf.f k l m) q ∧ Ev (fun k => impl_ChildrenOf.f k l m) q ∧ q.2 = c ∧ (c = 0 → q.1 = idxF (fun i => decide ((rd_T47 l i).f0 = m)) l.length 0) ∧ q.1.length ≤ 12 := by
  by_cases h : c = 0
  · obtain ⟨hp, h0, h1⟩ := hc h
    have hl := hp.2.1
    have hlen := idxF_length (fun i => decide ((rd_T47 l i).f0 = m)) l.length 0
    have e1 := ev_filter (L := fun i out k => spec_ChildrenOf.l0 k l m out i) (p := fun i => decide ((rd_T47 l i).f0 = m)) (n := l.length) (fin := fun out => (out, (0 : Int)))
      (fun i out h0 h1 h2 hp r hr => by
        refine Ev_shift ?_
        simp only [spec_ChildrenOf.l0, if_pos h1, if_pos h0, if_pos (of_decide_eq_true hp), if_pos (show out.length < 17592186044416 by omega), w64 (n := i + 1) (by omega)]
        exact hr)
      (fun i out h0 h1 h2 hp r hr => by
        refine Ev_shift ?_
        simp only [spec_ChildrenOf.l0, if_pos h1, if_pos h0, if_neg (of_decide_eq_false hp), w64 (n := i + 1) (by omega)]
        exact hr)
      (fun out h2 => by
        refine Ev_shift ?_
        simp only [spec_ChildrenOf.l0, if_neg (show ¬ (l.length : Int) < l.length by omega)]
        exact Ev.now _) l.length 0 [] (by omega) (by omega) (by simp)
    have e2 := ev_filter (L := fun i out k => impl_ChildrenOf.l0 k m out l l.length i) (p := fun i => decide ((rd_T47 l i).f0 = m)) (n := l.length) (fin := fun out => (out, (0 : Int)))
      (fun i out h0 h1 h2 hp r hr => by
        refine Ev_shift ?_
        simp only [impl_ChildrenOf.l0, if_pos h1, if_pos h0, if_pos (of_decide_eq_true hp), if_pos (show out.length < 17592186044416 by omega), w64 (n := i + 1) (by omega)]
        exact hr)
      (fun i out h0 h1 h2 hp r hr => by
        refine Ev_shift ?_
        simp only [impl_ChildrenOf.l0, if_pos h1, if_pos h0, if_neg (of_decide_eq_false hp), w64 (n := i + 1) (by omega)]
        exact hr)
      (fun out h2 => by
        refine Ev_shift ?_
        simp only [impl_ChildrenOf.l0, if_neg (show ¬ (l.length : Int) < l.length by omega)]
        exact Ev.now _) l.length 0 [] (by omega) (by omega) (by simp)
    refine ⟨(idxF (fun i => decide ((rd_T47 l i).f0 = m)) l.length 0, 0), ?_, ?_, h.symm, fun _ => rfl, by show List.length (idxF _ _ _) ≤ _; omega⟩
    · unfold spec_ChildrenOf.f
      refine Ev.bind hs ?_
      simp only [if_pos h]
      exact e1
    · unfold impl_ChildrenOf.f
      refine Ev.bind hi ?_
      simp only [if_pos h]
      exact e2
  · refine ⟨([], c), ?_, ?_, rfl, fun e => absurd e h, by simp⟩
    · unfold spec_ChildrenOf.f
      refine Ev.bind hs ?_
      simp only [if_neg h]
      exact Ev.now _
    · unfold impl_ChildrenOf.f
      refine Ev.bind hi ?_
      simp only [if_neg h]
      exact Ev.now _
theorem below_val {l : List S47} {m c : Int} (hc : c = 0 → PMods l ∧ 0 ≤ m ∧ m < l.length) (hs : Ev (fun k => spec_l12Code.f k l m) c) (hi : Ev (fun k => impl_moduleAsked.f k l [m]) c) : ∃ q : List Int × Int, Ev (fun k => spec_ModulesBelow.f k l m) q ∧ Ev (fun k => impl_ModulesBelow.f k l m) q ∧ q.2 = c ∧ (c = 0 → q.1 = idxF (belowP l m) l.length 0) ∧ q.1.length ≤ 12 := by
  by_cases h : c = 0
  · obtain ⟨hp, h0, h1⟩ := hc h
    have hl := hp.2.1
    have hlen := idxF_length (belowP l m) l.length 0
    obtain ⟨y, ya, yb, yc⟩ := impl_below hp h0 h1
    refine ⟨(idxF (belowP l m) l.length 0, 0), ?_, ?_, h.symm, fun _ => rfl, by show List.length (idxF _ _ _) ≤ _; omega⟩
    · unfold spec_ModulesBelow.f
      refine Ev.bind hs ?_
      simp only [if_pos h]
      exact Ev.bind (spec_below hp m) (Ev.now _)
    · unfold impl_ModulesBelow.f
      refine Ev.bind hi ?_
      simp only [if_pos h]
      refine Ev.bind yc ?_
      have := ev_filter (L := fun i out k => impl_ModulesBelow.l0 k out y y.length i) (p := belowP l m) (n := l.length) (fin := fun out => (out, (0 : Int)))
        (fun i out h0 h1 h2 hp' r hr => by
          refine Ev_shift ?_
          simp only [impl_ModulesBelow.l0, if_pos (show i < (y.length : Int) by omega), if_pos h0, yb i h0 h1, hp', if_true, if_pos (show out.length < 17592186044416 by omega), w64 (n := i + 1) (by omega)]
          exact hr)
        (fun i out h0 h1 h2 hp' r hr => by
          refine Ev_shift ?_
          simp only [impl_ModulesBelow.l0, if_pos (show i < (y.length : Int) by omega), if_pos h0, yb i h0 h1, hp', Bool.false_eq_true, if_false, w64 (n := i + 1) (by omega)]
          exact hr)
        (fun out h2 => by
          refine Ev_shift ?_
          simp only [impl_ModulesBelow.l0, if_neg (show ¬ (l.length : Int) < y.length by omega)]
          exact Ev.now _) l.length 0 [] (by omega) (by omega) (by simp)
      exact this
  · refine ⟨([], c), ?_, ?_, rfl, fun e => absurd e h, by simp⟩
    · unfold spec_ModulesBelow.f
      refine Ev.bind hs ?_
      simp only [if_neg h]
      exact Ev.now _
    · unfold impl_ModulesBelow.f
      refine Ev.bind hi ?_
      simp only [if_neg h]
      exact Ev.now _
theorem pins_val {l : List S47} {m c : Int} (hc : c = 0 → PMods l ∧ 0 ≤ m ∧ m < l.length) (hs : Ev (fun k => spec_l12Code.f k l m) c) (hi : Ev (fun k => impl_moduleAsked.f k l [m]) c) : ∃ q : Int × Int, Ev (fun k => spec_PinsBelow.f k l m) q ∧ Ev (fun k => impl_PinsBelow.f k l m) q ∧ q.2 = c ∧ (c = 0 → q.1 = pinsL l (idxF (belowP l m) l.length 0)) := by
  by_cases h : c = 0
  · obtain ⟨hp, h0, h1⟩ := hc h
    have hl := hp.2.1
    have hlen := idxF_length (belowP l m) l.length 0
    obtain ⟨y, ya, yb, yc⟩ := impl_below hp h0 h1
    refine ⟨(0 + pinsL l (idxF (belowP l m) l.length 0), 0), ?_, ?_, h.symm, fun _ => Int.zero_add _⟩
    · unfold spec_PinsBelow.f
      refine Ev.bind hs ?_
      simp only [if_pos h]
      refine Ev.bind (spec_below hp m) ?_
      exact spec_pins_l0 hp _ (fun x hx => by have := (idxF_mem _ _ _ _).1 hx; omega) (by omega) _ 0 0 (by omega) rfl (by omega) (by omega)
    · unfold impl_PinsBelow.f
      refine Ev.bind hi ?_
      simp only [if_pos h]
      refine Ev.bind yc ?_
      exact impl_pins_l0 hp m y ya yb l.length 0 0 (by omega) (by omega) (by omega) (by omega)
  · refine ⟨(0, c), ?_, ?_, rfl, fun e => absurd e h⟩
    · unfold spec_PinsBelow.f
      refine Ev.bind hs ?_
      simp only [if_neg h]
      exact Ev.now _
    · unfold impl_PinsBelow.f
      refine Ev.bind hi ?_
      simp only [if_neg h]
      exact Ev.now _
theorem pinsL_bd {l : List S47} (h : PMods l) : ∀ s : List Int, (∀ x ∈ s, 0 ≤ x ∧ x < l.length) → 0 ≤ pinsL l s ∧ pinsL l s ≤ 32 * s.length
  | [], _ => by simp [pinsL]
  | x :: s, hx => by
    have ih := pinsL_bd h s (fun y hy => hx y (by simp [hy]))
    have h1 := hx x (by simp)
    have hp := h.2.2 x h1.1 h1.2
    unfold PM at hp
    simp only [pinsL, List.length_cons]
    omega
theorem good12_l0 (c : List Int) : ∀ (d : Nat) (out : List S47) (a s : Int), Src c a s → 1 ≤ out.length → out.length + d ≤ 12 → ∃ l a' s', Ev (fun k => spec_l12Good.l0 k out d c a s) (l, a', s') ∧ Src c a' s' ∧ 1 ≤ l.length ∧ l.length ≤ 12
  | 0, out, a, s, h, h1, hd => by
    refine ⟨out, a, s, Ev_shift ?_, h, h1, by omega⟩
    simp only [spec_l12Good.l0, if_neg (show ¬ ((0 : Nat) : Int) > 0 by decide)]
    exact Ev.now _
  | d + 1, out, a, s, h, h1, hd => by
    obtain ⟨v1, a1, s1, e1, g1, _, _⟩ := next_some h (out.length : Int) (by omega)
    obtain ⟨v2, a2, s2, e2, g2, _, _⟩ := next_some g1 6 (by omega)
    obtain ⟨l, a', s', e, hs, hl⟩ := good12_l0 c d (out ++ [(⟨v1, v2⟩ : S47)]) a2 s2 g2 (by simp) (by simp; omega)
    refine ⟨l, a', s', Ev_shift ?_, hs, hl⟩
    simp only [spec_l12Good.l0, if_pos (show ((d + 1 : Nat) : Int) > 0 by omega), e1, e2, Option.bind_some, if_pos (show out.length < 8796093022208 by omega), show ((d + 1 : Nat) : Int) - 1 = (d : Int) by omega, w64 (n := (d : Int)) (by omega)]
    exact e
theorem good12_ev {c : List Int} {a s : Int} (h : Src c a s) : ∃ l a' s', Ev (fun k => spec_l12Good.f k c a s) (l, a', s') ∧ Src c a' s' ∧ 1 ≤ l.length ∧ l.length ≤ 12 := by
  obtain ⟨v1, a1, s1, e1, h1, _, _⟩ := next_some h 5 (by omega)
  obtain ⟨v2, a2, s2, e2, h2, v0, v3⟩ := next_some h1 8 (by omega)
  obtain ⟨l, a', s', e, hs, hl⟩ := good12_l0 c v2.toNat [(⟨(-1), v1⟩ : S47)] a2 s2 h2 (by simp) (by simp; omega)
  rw [show ((v2.toNat : Nat) : Int) = v2 by omega] at e
  refine ⟨l, a', s', ?_, hs, hl⟩
  unfold spec_l12Good.f
  simp only [e1, e2, Option.bind_some]
  exact e
theorem fill12_l0 (c : List Int) : ∀ (d : Nat) (out : List S47) (a s : Int), Src c a s → 14 ≤ out.length + d → out.length ≤ 14 → ∃ l a' s', Ev (fun k => spec_l12Draw.l0 k out c a s) (l, a', s') ∧ Src c a' s' ∧ l.length ≤ 30
  | d, out, a, s, h, hd, ho => by
    obtain ⟨v, a1, s1, e1, h1, v0, v1⟩ := next_some h 2 (by omega)
    by_cases c1 : (out.length : Int) < 12 + v
    · cases d with
      | zero => omega
      | succ d =>
        obtain ⟨l, a', s', e, hs, hl⟩ := fill12_l0 c d (out ++ [(⟨0, 1⟩ : S47)]) a1 s1 h1 (by simp; omega) (by simp; omega)
        refine ⟨l, a', s', Ev_shift ?_, hs, hl⟩
        simp only [spec_l12Draw.l0, e1, Option.bind_some, w64 (n := 12 + v) (by omega), if_pos c1, if_pos (show out.length < 8796093022208 by omega)]
        exact e
    · refine ⟨out, a1, s1, Ev_shift ?_, h1, by omega⟩
      simp only [spec_l12Draw.l0, e1, Option.bind_some, w64 (n := 12 + v) (by omega), if_neg c1]
      exact Ev.now _
theorem draw12_ev {c : List Int} {a s : Int} (h : Src c a s) : ∃ l a' s', Ev (fun k => spec_l12Draw.f k c a s) (l, a', s') ∧ Src c a' s' ∧ l.length ≤ 30 := by
  obtain ⟨l, a1, s1, e1, h1, hl1, hl2⟩ := good12_ev h
  obtain ⟨v, a2, s2, e2, h2, v0, v1⟩ := next_some h1 (l.length : Int) (by omega)
  obtain ⟨u, a3, s3, e3, h3, _, _⟩ := next_some h2 40 (by omega)
  have hv : v < (l.length : Int) := by omega
  have go : ∀ q, Ev (fun k => if u = 0 then ((spec_l01Pick.f c a3 s3 (([v, wrap64 (v - 1), (-1), (-2)] : List Int))).bind fun bt144 => (if 0 ≤ v then (if v < (l.length : Int) then (some ((l.set (v : Int).toNat (⟨bt144.1, (rd_T47 l v).f1⟩ : S47)), bt144.2.1, bt144.2.2)) else (none)) else (none))) else (if u = 1 then ((spec_l01Pick.f c a3 s3 (([(-1), 32, 33] : List Int))).bind fun bt151 => (if 0 ≤ v then (if v < (l.length : Int) then (some ((l.set (v : Int).toNat (⟨(rd_T47 l v).f0, bt151.1⟩ : S47)), bt151.2.1, bt151.2.2)) else (none)) else (none))) else (if u = 2 then (spec_l12Draw.l0 k l c a3 s3) else (if u = 3 then (if 0 ≤ (l.length : Int) then (some ((l.take (0 : Int).toNat), a3, s3)) else (none)) else (some (l, a3, s3)))))) q → Ev (fun k => spec_l12Draw.f k c a s) q := fun q hq => by
    unfold spec_l12Draw.f
    refine Ev.bind e1 ?_
    simp only [e2, e3, Option.bind_some]
    exact hq
  by_cases c0 : u = 0
  · obtain ⟨p, a4, s4, e4, h4, _⟩ := pick_some h3 [v, wrap64 (v - 1), (-1), (-2)] (by simp) (by simp)
    refine ⟨l.set v.toNat (⟨p, (rd_T47 l v).f1⟩ : S47), a4, s4, go _ ?_, h4, by simp; omega⟩
    simp only [if_pos c0, e4, Option.bind_some, if_pos v0, if_pos hv]
    exact Ev.now _
  · by_cases c1 : u = 1
    · obtain ⟨p, a4, s4, e4, h4, _⟩ := pick_some h3 [(-1), 32, 33] (by simp) (by simp)
      refine ⟨l.set v.toNat (⟨(rd_T47 l v).f0, p⟩ : S47), a4, s4, go _ ?_, h4, by simp; omega⟩
      simp only [if_neg c0, if_pos c1, e4, Option.bind_some, if_pos v0, if_pos hv]
      exact Ev.now _
    · by_cases c2 : u = 2
      · obtain ⟨l', a', s', e, hs, hl⟩ := fill12_l0 c 14 l a3 s3 h3 (by omega) (by omega)
        refine ⟨l', a', s', go _ ?_, hs, hl⟩
        simp only [if_neg c0, if_neg c1, if_pos c2]
        exact e
      · by_cases c3 : u = 3
        · refine ⟨l.take (0 : Int).toNat, a3, s3, go _ ?_, h3, by simp⟩
          simp only [if_neg c0, if_neg c1, if_neg c2, if_pos c3, if_pos (show 0 ≤ (l.length : Int) by omega)]
          exact Ev.now _
        · refine ⟨l, a3, s3, go _ ?_, h3, by omega⟩
          simp only [if_neg c0, if_neg c1, if_neg c2, if_neg c3]
          exact Ev.now _
theorem drawDepth_ev (c : List Int) (hc : c.length ≤ 4096) (hb : ∀ x ∈ c, 0 ≤ x ∧ x ≤ 255) : ∃ (l : List S47) (m : Int), Ev (fun k => spec_DrawDepthOf.f k c) (l, m) ∧ l.length ≤ 30 := by
  obtain ⟨s, e0, h0⟩ := from_ev c hc hb
  obtain ⟨l, a1, s1, e1, h1, hl⟩ := draw12_ev h0
  obtain ⟨v, a2, s2, e2, h2, _, _⟩ := next_some h1 (wrap64 ((l.length : Int) + 1)) (by rw [w64 (by omega)]; omega)
  obtain ⟨u, a3, s3, e3, h3, _, _⟩ := next_some h2 24 (by omega)
  refine ⟨l, wrap64 (v - wrap64 (Int.tdiv u 23)), ?_, hl⟩
  unfold spec_DrawDepthOf.f
  refine Ev.bind e0 (Ev.bind e1 ?_)
  simp only [e2, e3, Option.bind_some]
  exact Ev.now _
theorem kidsL_bd {l : List S47} (h : PMods l) : ∀ s : List Int, 0 ≤ kidsL l s ∧ kidsL l s ≤ 384 * s.length
  | [] => by simp [kidsL]
  | c :: s => by
    have ih := kidsL_bd h s
    have hl := h.2.1
    have hlen := idxF_length (belowP l c) l.length 0
    have hb := pinsL_bd h (idxF (belowP l c) l.length 0) (fun x hx => by
      have := (idxF_mem _ _ _ _).1 hx
      omega)
    simp only [kidsL, List.length_cons]
    omega
theorem mods_loop {l : List S47} (h : PMods l) {m : Int} (m0 : 0 ≤ m) (m1 : m < l.length) (w1 w2 cs bl : List Int) (dp pp : Int) (hdp : dp = ((wayF l 12 m).length : Int) - 1) (hbl : bl = idxF (belowP l m) l.length 0) (hcs : ∀ c ∈ cs, 0 ≤ c ∧ c < l.length ∧ (rd_T47 l c).f0 = m) (hcl : cs.length ≤ 12) (hpp : pp ≤ 1000)
    (fin : Ev (fun k => if (w1.length : Int) = (wrap64 (dp + 1)) then (if 0 < (w1.length : Int) then (if (rd w1 0) = m then (if 0 ≤ (wrap64 ((w2.length : Int) - 1)) then (if (wrap64 ((w2.length : Int) - 1)) < (w1.length : Int) then (if (rd w1 (wrap64 ((w2.length : Int) - 1))) = 0 then ((laws_hasInt.f k bl m).bind fun t341 => (some t341)) else (some false)) else (none)) else (none)) else (some false)) else (none)) else (some false)) true) : ∀ (s : List Int) (i a : Int), 0 ≤ i → cs.drop i.toNat = s → 0 ≤ a → a + kidsL l s = pp → Ev (fun k => laws_FnModules.l0 k l m dp w1 w2 cs bl pp a i) true
  | [], i, a, h0, hs, a0, ha => by
    refine Ev_shift ?_
    have e : a = pp := by simpa [kidsL] using ha
    simp only [laws_FnModules.l0, if_neg (drop_nil h0 hs), if_pos e]
    exact fin
  | c :: s, i, a, h0, hs, a0, ha => by
    have hl := h.2.1
    obtain ⟨h1, h2, h3⟩ := drop_cons 0 h0 hs
    have h2' : rd cs i = c := h2
    have hc := hcs c (List.mem_of_mem_drop (i := i.toNat) (by rw [hs]; simp))
    obtain ⟨z, z1, z2, z3, zs, zi⟩ := mcode1 l (by omega) c
    have hz := z2 h hc.1 hc.2.1
    subst hz
    obtain ⟨⟨d, dc⟩, _, ed, hd1, hd2⟩ := depth_val z1 zs zi
    obtain ⟨⟨p, pc⟩, _, ep, hp1, hp2⟩ := pins_val z1 zs zi
    have hd2 := hd2 rfl
    have hp2 := hp2 rfl
    simp only at hd1 hd2 hp1 hp2
    have hw := way_child h hc.1 hc.2.1 hc.2.2
    have hwl : (wayF l 12 c).length = (wayF l 12 m).length + 1 := by rw [hw]; rfl
    have hwl2 := wayF_length l 12 m
    have hk := kidsL_bd h (c :: s)
    have hks := kidsL_bd h s
    have hsl : s.length ≤ 12 := by
      have := congrArg List.length h3
      rw [List.length_drop] at this
      omega
    have hb := pinsL_bd h (idxF (belowP l c) l.length 0) (fun x hx => by
      have := (idxF_mem _ _ _ _).1 hx
      omega)
    have hlen := idxF_length (belowP l c) l.length 0
    have hmem : c ∈ bl := by
      rw [hbl]
      refine (idxF_mem _ _ _ _).2 ⟨hc.1, by omega, decide_eq_true ?_⟩
      rw [hw]
      obtain ⟨t, ht⟩ := way_head (l := l) m0
      rw [ht]
      simp
    have hbll : bl.length ≤ 1000000 := by
      rw [hbl]
      have := idxF_length (belowP l m) l.length 0
      omega
    refine Ev_shift ?_
    simp only [laws_FnModules.l0, if_pos h1, if_pos h0, h2']
    refine Ev.bind ep (Ev.bind ed ?_)
    simp only [hp1, hd1, if_true, w64 (n := dp + 1) (by omega), if_pos (show d = dp + 1 by omega)]
    refine Ev.bind (hasInt_ev bl hbll c hmem) ?_
    unfold kidsL at ha
    simp only [if_true, w64 (n := i + 1) (by omega), w64 (n := a + p) (by omega)]
    exact mods_loop h m0 m1 w1 w2 cs bl dp pp hdp hbl hcs hcl hpp fin s (i + 1) (a + p) (by omega) h3 (by omega) (by omega)
theorem FnModules : laws_FnModules.Pure := by
  intro c _ _ hw
  have hb := u8_rng hw
  by_cases big : (c.length : Int) > 4096
  · refine ⟨0, ?_⟩
    unfold laws_FnModules.f laws_big.f
    simp only [Option.bind_some, decide_eq_true big, if_true]
  · suffices hq : Ev (fun k => laws_FnModules.f k c) true by
      obtain ⟨K, hK⟩ := hq
      exact ⟨K, hK K (Nat.le_refl _)⟩
    obtain ⟨l, m, ed, hl⟩ := drawDepth_ev c (by omega) hb
    obtain ⟨z, z1, z2, z3, zs, zi⟩ := mcode1 l (by omega) m
    obtain ⟨⟨d, dc⟩, ds, di, hd1, hd2⟩ := depth_val z1 zs zi
    obtain ⟨⟨w, wc⟩, ws, wi, hw1, hw2, hw3⟩ := way_val z1 zs zi
    obtain ⟨⟨cs, cc⟩, cs_, ci, hc1, hc2, hc3⟩ := kids_val z1 zs zi
    obtain ⟨⟨bl, bc⟩, bs, bi, hb1, hb2, hb3⟩ := below_val z1 zs zi
    obtain ⟨⟨p, pc⟩, ps, pi, hp1, hp2⟩ := pins_val z1 zs zi
    simp only at hd1 hd2 hw1 hw2 hw3 hc1 hc2 hc3 hb1 hb2 hb3 hp1 hp2
    subst hd1 hw1 hc1 hb1 hp1
    have am := impl_AreModules_ev l (by omega)
    unfold laws_FnModules.f laws_big.f
    simp only [Option.bind_some, decide_eq_false big, Bool.false_eq_true, if_false]
    refine Ev.bind ed (Ev.bind di (Ev.bind ds (Ev.bind wi (Ev.bind ws (Ev.bind ci (Ev.bind cs_ (Ev.bind bi (Ev.bind bs (Ev.bind pi (Ev.bind ps ?_))))))))))
    simp only [if_true]
    refine Ev.bind (likeInts_self w (by omega)) ?_
    simp only [if_true]
    refine Ev.bind (likeInts_self cs (by omega)) ?_
    simp only [if_true]
    refine Ev.bind (likeInts_self bl (by omega)) ?_
    simp only [if_true]
    refine Ev.bind am ?_
    have eb : (tt (PMods l) != (pc != 1)) = false := by
      by_cases hp : PMods l
      · have : ¬ pc = 1 := fun e => z3.1 e hp
        rw [tt_pos hp]
        simp [this]
      · rw [tt_neg hp, z3.2 hp]
        rfl
    rw [eb]
    refine Ev_shift ?_
    simp only [laws_FnModules.j0, Bool.false_eq_true, if_false]
    by_cases c0 : pc = 0
    · obtain ⟨hp, m0, m1⟩ := z1 c0
      have hl2 := hp.2.1
      have ed := hd2 c0
      have ew := hw2 c0
      have ec := hc2 c0
      have eb := hb2 c0
      have ep := hp2 c0
      have hmod := hp.2.2 m m0 m1
      unfold PM at hmod
      obtain ⟨t, ht⟩ := way_head (l := l) m0
      obtain ⟨u, hu⟩ := way_last hp 12 m m0 m1 (by omega)
      have hwl := wayF_length l 12 m
      have hlen := idxF_length (belowP l m) l.length 0
      have hwpos : (wayF l 12 m).length = t.length + 1 := by rw [ht]; rfl
      have hwu : (wayF l 12 m).length = u.length + 1 := by rw [hu]; simp
      have hpb := pinsL_bd hp (idxF (belowP l m) l.length 0) (fun x hx => by
        have := (idxF_mem _ _ _ _).1 hx
        omega)
      simp only [if_pos c0, if_pos m0, if_pos m1]
      subst ed ew ec eb ep
      refine mods_loop hp m0 m1 _ _ _ _ _ _ rfl rfl (fun c hc => ?_) hc3 (by omega) ?_ _ 0 _ (by omega) rfl (by omega) (pins_kids hp m0 m1)
      · have := (idxF_mem _ _ _ _).1 hc
        exact ⟨this.1, by omega, of_decide_eq_true this.2.2⟩
      · have r0 : rd (wayF l 12 m) 0 = m := by rw [ht]; rfl
        have r1 : rd (wayF l 12 m) (((wayF l 12 m).length : Int) - 1) = 0 := by
          rw [hu, show (((u ++ [(0 : Int)]).length : Int) - 1) = (u.length : Int) by simp]
          exact getD_at_mid 0 u 0 []
        simp only [w64 (n := ((wayF l 12 m).length : Int) - 1 + 1) (by omega), if_pos (show ((wayF l 12 m).length : Int) = ((wayF l 12 m).length : Int) - 1 + 1 by omega), if_pos (show 0 < ((wayF l 12 m).length : Int) by omega), if_pos r0, w64 (n := ((wayF l 12 m).length : Int) - 1) (by omega), if_pos (show 0 ≤ ((wayF l 12 m).length : Int) - 1 by omega), if_pos (show ((wayF l 12 m).length : Int) - 1 < ((wayF l 12 m).length : Int) by omega), if_pos r1]
        refine Ev.bind (hasInt_ev (idxF (belowP l m) l.length 0) (by omega) m ((idxF_mem _ _ _ _).2 ⟨m0, by omega, decide_eq_true ?_⟩)) (Ev.now _)
        rw [ht]
        simp
    · simp only [if_neg c0]
      exact Ev.now _
end Go.Proofs.Ytmahecjbejffoaa.Pure
