/- PureFnCircuits of the law FnCircuits: taken over, declaration by declaration, as far as the law leans on it (the words and the printed functions are the kit's own print). No condition but what each says. -/
import Derived.Test.YtmahecjbejffoaaZFnCircuitsav
import Derived.Test.YtmahecjbejffoaaZFnCircuitsax
import Derived.Test.YtmahecjbejffoaaZFnCircuitsay
import Derived.Test.YtmahecjbejffoaaZFnCircuitsaz
import Derived.Test.YtmahecjbejffoaaZFnCircuitsba
import Derived.Test.YtmahecjbejffoaaZFnCircuitsbd
import Derived.Test.YtmahecjbejffoaaZFnCircuitsbe
import Derived.Test.YtmahecjbejffoaaZFnCircuitsbb
namespace Go.Proofs.Ytmahecjbejffoaa.Pure
open Go.RowKit Go.Proofs.Ytmahecjbejffoaa.PFnCircuits Go.Proofs.YtmahecjbejffoaaW.PrintWords Go.Proofs.YtmahecjbejffoaaW.PrintLast Go.Proofs.Ytmahecjbejffoaa.Opening
set_option linter.unusedVariables false
set_option linter.unusedSimpArgs false
theorem w64 {n : Int} (h : -9223372036854775808 ≤ n ∧ n ≤ 9223372036854775807) : wrap64 n = n := by
  unfold wrap64
  omega
theorem l01In_eq (a b c : Int) : spec_l01In.f a b c = some (decide (b ≤ a ∧ a ≤ c)) := by
  unfold spec_l01In.f
  by_cases h : b ≤ a <;> simp [h]
theorem within_eq (a b c : Int) : impl_within.f a b c = some (decide (b ≤ a ∧ a ≤ c)) := by
  unfold impl_within.f
  by_cases h : b ≤ a <;> simp [h]
theorem drop_cons {α : Type} {l : List α} {i : Int} {a : α} {s : List α} (z : α) (h0 : 0 ≤ i) (h : l.drop i.toNat = a :: s) : i < l.length ∧ l.getD i.toNat z = a ∧ l.drop (i + 1).toNat = s := by
  have hlt : i.toNat < l.length := by
    rcases Nat.lt_or_ge i.toNat l.length with h1 | h1
    · exact h1
    · rw [List.drop_eq_nil_of_le h1] at h; cases h
  rw [List.drop_eq_getElem_cons hlt] at h
  injection h with h1 h2
  refine ⟨by omega, ?_, ?_⟩
  · rw [List.getD_eq_getElem?_getD, List.getElem?_eq_getElem hlt]; exact h1
  · rw [show (i + 1).toNat = i.toNat + 1 by omega]; exact h2
theorem drop_nil {α : Type} {l : List α} {i : Int} (h0 : 0 ≤ i) (h : l.drop i.toNat = []) : ¬ i < (l.length : Int) := by
  have := List.drop_eq_nil_iff.1 h
  omega
theorem Ev_shift {α : Type} {g : Nat → Option α} {r : α} (h : Ev (fun k => g (k + 1)) r) : Ev g r := Ev.step (fun _ => rfl) h
theorem Ev_eq {α : Type} {g : Nat → Option α} {r q : α} (h : Ev g r) (e : r = q) : Ev g q := e ▸ h
theorem Ev_some {α : Type} {r q : α} (e : r = q) : Ev (fun _ => some r) q := e ▸ Ev.now r
noncomputable def tt (p : Prop) : Bool := @decide p (Classical.propDecidable p)
theorem tt_pos {p : Prop} (h : p) : tt p = true := by unfold tt; exact @decide_eq_true p (Classical.propDecidable p) h
theorem tt_neg {p : Prop} (h : ¬ p) : tt p = false := by unfold tt; exact @decide_eq_false p (Classical.propDecidable p) h
theorem tt_dec (p : Prop) [i : Decidable p] : tt p = decide p := by
  by_cases h : p
  · rw [tt_pos h, decide_eq_true h]
  · rw [tt_neg h, decide_eq_false h]
theorem tt_iff {p q : Prop} (h : p ↔ q) : tt p = tt q := by rw [propext h]
theorem ev_all {L : Int → Nat → Option Bool} {P : Int → Prop} {n : Int} {fin : Bool} (h1 : ∀ i, 0 ≤ i → i < n → P i → ∀ r, Ev (L (i + 1)) r → Ev (L i) r) (h2 : ∀ i, 0 ≤ i → i < n → ¬ P i → Ev (L i) false) (h3 : Ev (L n) fin) :
    ∀ (d : Nat) (i : Int), 0 ≤ i → i + d = n → Ev (L i) (fin && tt (∀ j, i ≤ j → j < n → P j))
  | 0, i, h0, hd => by
    have e : i = n := by omega
    rw [e, tt_pos (fun j h1 h2 => by omega), Bool.and_true]
    exact h3
  | d + 1, i, h0, hd => by
    by_cases hp : P i
    · have := h1 i h0 (by omega) hp _ (ev_all h1 h2 h3 d (i + 1) (by omega) (by omega))
      refine Ev_eq this ?_
      congr 1
      exact tt_iff ⟨fun h j h1 h2 => by
        by_cases e : j = i
        · rw [e]; exact hp
        · exact h j (by omega) h2, fun h j h1 h2 => h j (by omega) h2⟩
    · rw [tt_neg (fun h => hp (h i (Int.le_refl _) (by omega))), Bool.and_false]
      exact h2 i h0 (by omega) hp
/-- The numbers from i on, d of them looked at, that are told true. -/
def idxF (p : Int → Bool) : Nat → Int → List Int
  | 0, _ => []
  | d + 1, i => if p i = true then i :: idxF p d (i + 1) else idxF p d (i + 1)
theorem idxF_length (p : Int → Bool) : ∀ (d : Nat) (i : Int), (idxF p d i).length ≤ d
  | 0, _ => Nat.le_refl _
  | d + 1, i => by
    unfold idxF
    have := idxF_length p d (i + 1)
    split
    · simp only [List.length_cons]
      omega
    · omega
theorem rd_mem {l : List Int} {i : Int} (h0 : 0 ≤ i) (h1 : i < l.length) : rd l i ∈ l := by
  have hlt : i.toNat < l.length := by omega
  have e : rd l i = l[i.toNat] := by
    show l.getD i.toNat _ = _
    rw [List.getD_eq_getElem?_getD, List.getElem?_eq_getElem hlt]
    rfl
  rw [e]
  exact List.getElem_mem hlt
/-- A source of drawn numbers. -/
def Src (c : List Int) (a s : Int) : Prop := (0 ≤ a ∧ a ≤ c.length ∧ c.length ≤ 4096) ∧ (0 ≤ s ∧ s < 2147483647) ∧ ∀ x ∈ c, 0 ≤ x ∧ x ≤ 255
theorem next_some {c : List Int} {a s : Int} (h : Src c a s) (n : Int) (hn : n ≤ 1000000000000) : ∃ v a' s', spec_l01Next.f c a s n = some (v, a', s') ∧ Src c a' s' ∧ 0 ≤ v ∧ (v < n ∨ v = 0) := by
  have ha := h.1
  have hs := h.2.1
  unfold spec_l01Next.f
  by_cases c1 : n ≤ 1
  · rw [if_pos c1]
    exact ⟨0, a, s, rfl, h, by omega, .inr rfl⟩
  · rw [if_neg c1]
    have w1 : wrap64 (wrap64 (s * 48271) + 29) = s * 48271 + 29 := by rw [w64 (n := s * 48271) (by omega), w64 (by omega)]
    obtain ⟨e, he⟩ : ∃ e, Int.tmod (s * 48271 + 29) 2147483647 = e := ⟨_, rfl⟩
    have e0 : 0 ≤ e := he ▸ Int.tmod_nonneg _ (by omega)
    have e1 : e < 2147483647 := he ▸ Int.tmod_lt_of_pos _ (by omega)
    obtain ⟨q, hq⟩ : ∃ q, Int.tdiv e 31 = q := ⟨_, rfl⟩
    have q0 : 0 ≤ q ∧ q ≤ e := by
      rw [← hq, Int.tdiv_eq_ediv_of_nonneg e0]
      omega
    have src : ∀ a' : Int, 0 ≤ a' → a' ≤ (c.length : Int) → Src c a' e := fun a' h0 h1 => ⟨⟨h0, h1, ha.2.2⟩, ⟨e0, e1⟩, h.2.2⟩
    have md : ∀ x, 0 ≤ x → 0 ≤ Int.tmod x n ∧ Int.tmod x n < n := fun x hx => ⟨Int.tmod_nonneg _ hx, Int.tmod_lt_of_pos _ (by omega)⟩
    by_cases c2 : a < c.length
    · have hr := h.2.2 (rd c a) (rd_mem ha.1 c2)
      simp only [w1, he, hq, w64 (n := q) (by omega), if_pos c2, if_pos ha.1, w64 (n := a + 1) (by omega), w64 (n := a + 1 - 1) (by omega), show a + 1 - 1 = a by omega, w64 (n := a) (by omega), w64 (n := rd c a) (by omega), w64 (n := q + rd c a) (by omega), if_neg (show ¬ n = 0 by omega)]
      have m1 := md (rd c a) hr.1
      have m2 := md (q + rd c a) (by omega)
      by_cases c3 : n ≤ 256
      · by_cases c4 : Int.tmod (a + 1) 2 = 0
        · simp only [if_pos c3, if_pos c4]
          exact ⟨_, a + 1, e, rfl, src (a + 1) (by omega) (by omega), m1.1, .inl m1.2⟩
        · simp only [if_pos c3, if_neg c4]
          exact ⟨_, a + 1, e, rfl, src (a + 1) (by omega) (by omega), m2.1, .inl m2.2⟩
      · simp only [if_neg c3]
        exact ⟨_, a + 1, e, rfl, src (a + 1) (by omega) (by omega), m2.1, .inl m2.2⟩
    · have m3 := md q q0.1
      simp only [w1, he, hq, w64 (n := q) (by omega), if_neg c2, if_neg (show ¬ n = 0 by omega)]
      exact ⟨_, a, e, rfl, src a ha.1 ha.2.1, m3.1, .inl m3.2⟩
theorem pick_some {c : List Int} {a s : Int} (h : Src c a s) (l : List Int) (h1 : 1 ≤ l.length) (h2 : l.length ≤ 1000) : ∃ v a' s', spec_l01Pick.f c a s l = some (v, a', s') ∧ Src c a' s' ∧ v ∈ l := by
  obtain ⟨v, a', s', e, hs, h0, hv⟩ := next_some h l.length (by omega)
  refine ⟨rd l v, a', s', ?_, hs, rd_mem h0 (by omega)⟩
  unfold spec_l01Pick.f
  rw [e]
  simp only [Option.bind_some]
  rw [if_pos h0, if_pos (by omega)]
theorem from_l0 (c : List Int) (hc : c.length ≤ 4096) (hb : ∀ x ∈ c, 0 ≤ x ∧ x ≤ 255) : ∀ (d : Nat) (i s : Int), 0 ≤ i → i + d = c.length → 0 ≤ s → s < 2147483647 → ∃ s', Ev (fun k => spec_l01From.l0 k c i c 0 s) (c, 0, s') ∧ Src c 0 s'
  | 0, i, s, h0, hd, s0, s1 => by
    refine ⟨s, Ev_shift ?_, ⟨by omega, by omega, hc⟩, ⟨s0, s1⟩, hb⟩
    simp only [spec_l01From.l0, if_neg (show ¬ i < (c.length : Int) by omega)]
    exact Ev.now _
  | d + 1, i, s, h0, hd, s0, s1 => by
    have hi : i < (c.length : Int) := by omega
    have hr := hb (rd c i) (rd_mem h0 hi)
    by_cases c2 : i < 64
    · obtain ⟨s', e, hs⟩ := from_l0 c hc hb d (i + 1) (Int.tmod (s * 83 + rd c i) 2147483647) (by omega) (by omega) (Int.tmod_nonneg _ (by omega)) (Int.tmod_lt_of_pos _ (by omega))
      refine ⟨s', Ev_shift ?_, hs⟩
      simp only [spec_l01From.l0, if_pos hi, if_pos c2, if_pos h0, w64 (n := i + 1) (by omega), w64 (n := s * 83) (by omega), w64 (n := rd c i) (by omega), w64 (n := s * 83 + rd c i) (by omega)]
      exact e
    · refine ⟨s, Ev_shift ?_, ⟨by omega, by omega, hc⟩, ⟨s0, s1⟩, hb⟩
      simp only [spec_l01From.l0, if_pos hi, if_neg c2]
      exact Ev.now _
theorem from_ev (c : List Int) (hc : c.length ≤ 4096) (hb : ∀ x ∈ c, 0 ≤ x ∧ x ≤ 255) : ∃ s, Ev (fun k => spec_l01From.f k c) (c, 0, s) ∧ Src c 0 s := by
  unfold spec_l01From.f
  exact from_l0 c hc hb c.length 0 61043 (by omega) (by omega) (by omega) (by omega)
theorem u8_rng {l : List Int} (h : ∀ x ∈ l, (Lit.int .u8 x).wf = true) : ∀ x ∈ l, 0 ≤ x ∧ x ≤ 255 := by
  intro x hx
  have := h x hx
  simp only [Lit.wf, Bool.and_eq_true, decide_eq_true_eq] at this
  have h1 : IntKind.min .u8 = 0 := by decide
  have h2 : IntKind.max .u8 = 255 := by decide
  rw [h1, h2] at this
  exact this
theorem likeInts_l0 (l : List Int) (hl : l.length ≤ 10000000) : ∀ (d : Nat) (i : Int), 0 ≤ i → i + d = l.length → Ev (fun k => laws_likeInts.l0 k l l i) true
  | 0, i, h0, hd => by
    refine Ev_shift ?_
    simp only [laws_likeInts.l0, if_neg (show ¬ i < (l.length : Int) by omega)]
    exact Ev.now _
  | d + 1, i, h0, hd => by
    refine Ev_shift ?_
    simp only [laws_likeInts.l0, if_pos (show i < (l.length : Int) by omega), if_pos h0, if_true, w64 (n := i + 1) (by omega)]
    exact likeInts_l0 l hl d (i + 1) (by omega) (by omega)
theorem likeInts_self (l : List Int) (hl : l.length ≤ 10000000) : Ev (fun k => laws_likeInts.f k l l) true := by
  unfold laws_likeInts.f
  simp only [if_true]
  exact likeInts_l0 l hl l.length 0 (by omega) (by omega)
theorem hasIntd_l0 (l : List Int) (hn : l.length ≤ 1000000) (x : Int) : ∀ (s : List Int) (i : Int), 0 ≤ i → l.drop i.toNat = s → Ev (fun k => laws_hasInt.l0 k l x i) (decide (x ∈ s))
  | [], i, h0, h => by
    refine Ev_shift ?_
    simp only [laws_hasInt.l0, if_neg (drop_nil h0 h)]
    exact Ev_some (by simp)
  | a :: s, i, h0, h => by
    refine Ev_shift ?_
    obtain ⟨h1, h2, h3⟩ := drop_cons 0 h0 h
    have h2' : rd l i = a := h2
    by_cases e : a = x
    · simp only [laws_hasInt.l0, if_pos h1, if_pos h0, h2', if_pos e]
      exact Ev_some (by simp [e])
    · simp only [laws_hasInt.l0, if_pos h1, if_pos h0, h2', if_neg e, w64 (n := i + 1) (by omega)]
      refine Ev_eq (hasIntd_l0 l hn x s (i + 1) (by omega) h3) ?_
      simp [Ne.symm e]
theorem hasInt_dec (l : List Int) (hn : l.length ≤ 1000000) (x : Int) : Ev (fun k => laws_hasInt.f k l x) (decide (x ∈ l)) := by
  unfold laws_hasInt.f
  exact hasIntd_l0 l hn x l 0 (by omega) rfl
theorem allWithin_l0 (l : List Int) (hn : l.length ≤ 140737488351232) (a b : Int) : ∀ (s : List Int) (i : Int), 0 ≤ i → l.drop i.toNat = s → Ev (fun k => impl_allWithin.l0 k a b l l.length i) (decide (∀ x ∈ s, a ≤ x ∧ x ≤ b))
  | [], i, h0, h => by
    refine Ev_shift ?_
    simp only [impl_allWithin.l0, if_neg (drop_nil h0 h)]
    exact Ev_some (by simp)
  | c :: s, i, h0, h => by
    refine Ev_shift ?_
    obtain ⟨h1, h2, h3⟩ := drop_cons 0 h0 h
    have h2' : rd l i = c := h2
    simp only [impl_allWithin.l0, if_pos h1, if_pos h0, h2', within_eq, Option.bind_some, decide_eq_true_eq, w64 (n := i + 1) (by omega)]
    by_cases hc : a ≤ c ∧ c ≤ b
    · simp only [if_pos hc]
      refine Ev_eq (allWithin_l0 l hn a b s (i + 1) (by omega) h3) ?_
      exact decide_eq_decide.2 ⟨fun h x hx => by
        rcases List.mem_cons.1 hx with rfl | hx
        · exact hc
        · exact h x hx, fun h x hx => h x (by simp [hx])⟩
    · simp only [if_neg hc]
      exact Ev_some (decide_eq_false (fun h => hc (h c (by simp)))).symm
theorem allWithin_ev (l : List Int) (hn : l.length ≤ 140737488351232) (a b : Int) : Ev (fun k => impl_allWithin.f k l a b) (decide (∀ x ∈ l, a ≤ x ∧ x ≤ b)) := by
  unfold impl_allWithin.f
  exact allWithin_l0 l hn a b l 0 (by omega) rfl
theorem idxF_mem (p : Int → Bool) : ∀ (d : Nat) (i x : Int), x ∈ idxF p d i ↔ i ≤ x ∧ x < i + d ∧ p x = true
  | 0, i, x => by simp [idxF]; omega
  | d + 1, i, x => by
    unfold idxF
    have ih := idxF_mem p d (i + 1) x
    by_cases hp : p i = true
    · rw [if_pos hp, List.mem_cons, ih]
      constructor
      · rintro (rfl | h)
        · exact ⟨by omega, by omega, hp⟩
        · exact ⟨by omega, by omega, h.2.2⟩
      · rintro ⟨a, b, c⟩
        by_cases e : x = i
        · exact .inl e
        · exact .inr ⟨by omega, by omega, c⟩
    · rw [if_neg hp, ih]
      constructor
      · rintro ⟨a, b, c⟩
        exact ⟨by omega, by omega, c⟩
      · rintro ⟨a, b, c⟩
        by_cases e : x = i
        · rw [e] at c
          exact absurd c hp
        · exact ⟨by omega, by omega, c⟩
/-- Circuits. -/
def PCirc (x : Int) (l : List Int) : Prop := (0 ≤ x ∧ x ≤ 100000) ∧ (1 ≤ l.length ∧ l.length ≤ 10) ∧ ∀ y ∈ l, 1 ≤ y ∧ y ≤ 100000
theorem spec_IsCircuit_l0 (x : Int) (l : List Int) (hn : l.length ≤ 140737488351232) : ∀ (s : List Int) (i : Int), 0 ≤ i → l.drop i.toNat = s → Ev (fun k => spec_IsCircuit.l0 k i x l) (tt ((∀ y ∈ s, 1 ≤ y ∧ y ≤ 100000) ∧ (0 ≤ x ∧ x ≤ 100000) ∧ (1 ≤ l.length ∧ l.length ≤ 10)))
  | [], i, h0, h => by
    refine Ev_shift ?_
    simp only [spec_IsCircuit.l0, if_neg (drop_nil h0 h), l01In_eq, Option.bind_some, decide_eq_true_eq]
    by_cases c : 0 ≤ x ∧ x ≤ 100000
    · simp only [if_pos c]
      refine Ev_some ?_
      rw [← tt_dec]
      exact tt_iff ⟨fun h => ⟨fun y hy => by simp at hy, c, by omega, by omega⟩, fun h => by have := h.2.2; omega⟩
    · simp only [if_neg c]
      exact Ev_some (tt_neg (fun h => c h.2.1)).symm
  | a :: s, i, h0, h => by
    refine Ev_shift ?_
    obtain ⟨h1, h2, h3⟩ := drop_cons 0 h0 h
    have h2' : rd l i = a := h2
    simp only [spec_IsCircuit.l0, if_pos h1, if_pos h0, h2', l01In_eq, Option.bind_some, decide_eq_true_eq, w64 (n := i + 1) (by omega)]
    by_cases c : 1 ≤ a ∧ a ≤ 100000
    · simp only [if_pos c]
      refine Ev_eq (spec_IsCircuit_l0 x l hn s (i + 1) (by omega) h3) (tt_iff ⟨fun h => ⟨fun y hy => ?_, h.2⟩, fun h => ⟨fun y hy => h.1 y (by simp [hy]), h.2⟩⟩)
      rcases List.mem_cons.1 hy with rfl | hy
      · exact c
      · exact h.1 y hy
    · simp only [if_neg c]
      exact Ev_some (tt_neg (fun h => c (h.1 a (by simp)))).symm
theorem spec_IsCircuit_ev (x : Int) (l : List Int) (hn : l.length ≤ 140737488351232) : Ev (fun k => spec_IsCircuit.f k x l) (tt (PCirc x l)) := by
  unfold spec_IsCircuit.f
  exact Ev_eq (spec_IsCircuit_l0 x l hn l 0 (by omega) rfl) (tt_iff ⟨fun h => ⟨h.2.1, h.2.2, h.1⟩, fun h => ⟨h.2.2, h.1, h.2.1⟩⟩)
theorem impl_IsCircuit_ev (x : Int) (l : List Int) (hn : l.length ≤ 140737488351232) : Ev (fun k => impl_IsCircuit.f k x l) (tt (PCirc x l)) := by
  unfold impl_IsCircuit.f
  simp only [impl_isLead.f, within_eq, Option.bind_some, decide_eq_true_eq]
  by_cases c : 0 ≤ x ∧ x ≤ 100000
  · simp only [if_pos c]
    by_cases c1 : (l.length : Int) ≥ 1
    · by_cases c2 : (l.length : Int) ≤ 10
      · simp only [if_pos c1, if_pos c2]
        refine Ev.bind (allWithin_ev l hn 1 100000) (Ev_some ?_)
        rw [← tt_dec]
        exact tt_iff ⟨fun h => ⟨c, ⟨by omega, by omega⟩, h⟩, fun h => h.2.2⟩
      · simp only [if_pos c1, if_neg c2]
        exact Ev_some (tt_neg (fun h => by have := h.2.1; omega)).symm
    · simp only [if_neg c1]
      exact Ev_some (tt_neg (fun h => by have := h.2.1; omega)).symm
  · simp only [if_neg c]
    exact Ev_some (tt_neg (fun h => c h.1)).symm
def sumI : List Int → Int
  | [] => 0
  | a :: s => a + sumI s
theorem sumI_rng : ∀ (s : List Int), (∀ y ∈ s, 1 ≤ y ∧ y ≤ 100000) → (s.length : Int) ≤ sumI s ∧ sumI s ≤ 100000 * s.length
  | [], _ => by simp [sumI]
  | a :: s, h => by
    have := sumI_rng s (fun y hy => h y (by simp [hy]))
    have := h a (by simp)
    simp only [sumI, List.length_cons]
    omega
theorem circ_rng {x : Int} {l : List Int} (h : PCirc x l) : 1 ≤ x + sumI l ∧ x + sumI l ≤ 1100000 := by
  have := sumI_rng l h.2.2
  have := h.1
  have := h.2.1
  omega
theorem spec_sum_l0 (l : List Int) (hl : l.length ≤ 10) : ∀ (s : List Int) (i a : Int), 0 ≤ i → l.drop i.toNat = s → (∀ y ∈ s, 1 ≤ y ∧ y ≤ 100000) → 0 ≤ a → a + 100000 * s.length ≤ 1000000000 → Ev (fun k => spec_l01Sum.l0 k l a i) (a + sumI s)
  | [], i, a, h0, h, hs, ha, hb => by
    refine Ev_shift ?_
    simp only [spec_l01Sum.l0, if_neg (drop_nil h0 h)]
    exact Ev_some (by simp [sumI])
  | c :: s, i, a, h0, h, hs, ha, hb => by
    refine Ev_shift ?_
    obtain ⟨h1, h2, h3⟩ := drop_cons 0 h0 h
    have h2' : rd l i = c := h2
    have hc := hs c (by simp)
    simp only [List.length_cons] at hb
    simp only [spec_l01Sum.l0, if_pos h1, if_pos h0, h2', w64 (n := i + 1) (by omega), w64 (n := a + c) (by omega)]
    refine Ev_eq (spec_sum_l0 l hl s (i + 1) (a + c) (by omega) h3 (fun y hy => hs y (by simp [hy])) (by omega) (by omega)) ?_
    simp only [sumI]
    omega
theorem spec_exp_ev {x : Int} {l : List Int} (h : PCirc x l) : Ev (fun k => spec_l14Expected.f k x l) (x + sumI l) := by
  have := circ_rng h
  have hl := h.2.1
  unfold spec_l14Expected.f spec_l01Sum.f
  refine Ev.bind (spec_sum_l0 l hl.2 l 0 0 (by omega) rfl h.2.2 (by omega) (by omega)) ?_
  rw [Int.zero_add, w64 (by omega)]
  exact Ev.now _
theorem impl_sum_l0 (l : List Int) (hl : l.length ≤ 10) : ∀ (s : List Int) (i a : Int), 0 ≤ i → l.drop i.toNat = s → (∀ y ∈ s, 1 ≤ y ∧ y ≤ 100000) → 0 ≤ a → a + 100000 * s.length ≤ 1000000000 → Ev (fun k => impl_total.l0 k a l l.length i) (a + sumI s)
  | [], i, a, h0, h, hs, ha, hb => by
    refine Ev_shift ?_
    simp only [impl_total.l0, if_neg (drop_nil h0 h)]
    exact Ev_some (by simp [sumI])
  | c :: s, i, a, h0, h, hs, ha, hb => by
    refine Ev_shift ?_
    obtain ⟨h1, h2, h3⟩ := drop_cons 0 h0 h
    have h2' : rd l i = c := h2
    have hc := hs c (by simp)
    simp only [List.length_cons] at hb
    simp only [impl_total.l0, if_pos h1, if_pos h0, h2', w64 (n := i + 1) (by omega), w64 (n := a + c) (by omega)]
    refine Ev_eq (impl_sum_l0 l hl s (i + 1) (a + c) (by omega) h3 (fun y hy => hs y (by simp [hy])) (by omega) (by omega)) ?_
    simp only [sumI]
    omega
theorem impl_exp_ev {x : Int} {l : List Int} (h : PCirc x l) : Ev (fun k => impl_expectedOf.f k x l) (x + sumI l) := by
  have := circ_rng h
  have hl := h.2.1
  unfold impl_expectedOf.f impl_total.f
  refine Ev.bind (impl_sum_l0 l hl.2 l 0 0 (by omega) rfl h.2.2 (by omega) (by omega)) ?_
  rw [Int.zero_add, w64 (by omega)]
  exact Ev.now _
/-- What a reading tells about a circuit with what is expected. -/
def stateM (lead e r t : Int) : Int := if 100 * (if r - e < 0 then -(r - e) else r - e) ≤ t * e then 0 else if r ≤ lead then 2 else if r ≥ 10 * e then 1 else 3
theorem spec_state_ev {x : Int} {l : List Int} (h : PCirc x l) {r t : Int} (hr : 0 ≤ r ∧ r ≤ 1000000000) (ht : 0 ≤ t ∧ t ≤ 100) : Ev (fun k => spec_l14State.f k x l r t) (stateM x (x + sumI l) r t) := by
  have he := circ_rng h
  have hm : 0 ≤ t * (x + sumI l) ∧ t * (x + sumI l) ≤ 1000000000 := by
    have h1 : 0 ≤ t * (x + sumI l) := Int.mul_nonneg ht.1 (by omega)
    have h2 : t * (x + sumI l) ≤ 100 * (x + sumI l) := Int.mul_le_mul_of_nonneg_right ht.2 (by omega)
    omega
  unfold spec_l14State.f
  refine Ev.bind (spec_exp_ev h) ?_
  have ea : spec_l01Abs.f (r - (x + sumI l)) = some (if r - (x + sumI l) < 0 then -(r - (x + sumI l)) else r - (x + sumI l)) := by
    unfold spec_l01Abs.f mx
    rw [w64 (by omega)]
    congr 1
    split <;> split <;> omega
  rw [w64 (n := r - (x + sumI l)) (by omega), ea, Option.bind_some, w64 (n := t * (x + sumI l)) (by omega), w64 (n := 10 * (x + sumI l)) (by omega), w64 (n := 100 * (if r - (x + sumI l) < 0 then -(r - (x + sumI l)) else r - (x + sumI l))) (by split <;> omega)]
  refine Ev_eq (Ev.now (stateM x (x + sumI l) r t)) rfl |> fun h => ?_
  obtain ⟨K, hK⟩ := h
  refine ⟨0, fun k _ => ?_⟩
  unfold stateM
  show (if 100 * (if r - (x + sumI l) < 0 then -(r - (x + sumI l)) else r - (x + sumI l)) ≤ t * (x + sumI l) then some 0 else _) = _
  by_cases g1 : 100 * (if r - (x + sumI l) < 0 then -(r - (x + sumI l)) else r - (x + sumI l)) ≤ t * (x + sumI l)
  · rw [if_pos g1, if_pos g1]
  · rw [if_neg g1, if_neg g1]
    by_cases g2 : r ≤ x
    · rw [if_pos g2, if_pos g2]
    · rw [if_neg g2, if_neg g2]
      by_cases g3 : r ≥ 10 * (x + sumI l)
      · rw [if_pos g3, if_pos g3]
      · rw [if_neg g3, if_neg g3]
theorem impl_state_ev {x : Int} {l : List Int} (h : PCirc x l) {r t : Int} (hr : 0 ≤ r ∧ r ≤ 1000000000) (ht : 0 ≤ t ∧ t ≤ 100) : Ev (fun k => impl_stateOf.f k x l r t) (stateM x (x + sumI l) r t) := by
  have he := circ_rng h
  have hm : 0 ≤ t * (x + sumI l) ∧ t * (x + sumI l) ≤ 1000000000 := by
    have h1 : 0 ≤ t * (x + sumI l) := Int.mul_nonneg ht.1 (by omega)
    have h2 : t * (x + sumI l) ≤ 100 * (x + sumI l) := Int.mul_le_mul_of_nonneg_right ht.2 (by omega)
    omega
  unfold impl_stateOf.f
  refine Ev.bind (impl_exp_ev h) ?_
  have ea : impl_abs.f (r - (x + sumI l)) = some (if r - (x + sumI l) < 0 then -(r - (x + sumI l)) else r - (x + sumI l)) := by
    unfold impl_abs.f
    rw [w64 (by omega)]
    split <;> rfl
  rw [w64 (n := r - (x + sumI l)) (by omega), ea, Option.bind_some, w64 (n := t * (x + sumI l)) (by omega), w64 (n := 10 * (x + sumI l)) (by omega), w64 (n := 100 * (if r - (x + sumI l) < 0 then -(r - (x + sumI l)) else r - (x + sumI l))) (by split <;> omega)]
  refine Ev_eq (Ev.now (stateM x (x + sumI l) r t)) rfl |> fun h => ?_
  obtain ⟨K, hK⟩ := h
  refine ⟨0, fun k _ => ?_⟩
  unfold stateM
  show (if 100 * (if r - (x + sumI l) < 0 then -(r - (x + sumI l)) else r - (x + sumI l)) ≤ t * (x + sumI l) then some 0 else _) = _
  by_cases g1 : 100 * (if r - (x + sumI l) < 0 then -(r - (x + sumI l)) else r - (x + sumI l)) ≤ t * (x + sumI l)
  · rw [if_pos g1, if_pos g1]
  · rw [if_neg g1, if_neg g1]
    by_cases g2 : r ≤ x
    · rw [if_pos g2, if_pos g2]
    · rw [if_neg g2, if_neg g2]
      by_cases g3 : r ≥ 10 * (x + sumI l)
      · rw [if_pos g3, if_pos g3]
      · rw [if_neg g3, if_neg g3]
theorem ccode1_ev (x : Int) (l : List Int) (hn : l.length ≤ 1000000) (r t : Int) : Ev (fun k => spec_l14Code.f k [(⟨x, l⟩ : S26)] [r] t) (if tt (PCirc x l) = true then (if (0 ≤ r ∧ r ≤ 1000000000) ∧ 0 ≤ t ∧ t ≤ 100 then 0 else 2) else 1) := by
  unfold spec_l14Code.f
  refine Ev_shift ?_
  have g0 : (rd_T26 [(⟨x, l⟩ : S26)] 0) = ⟨x, l⟩ := rfl
  have g1 : rd [r] 0 = r := rfl
  simp only [spec_l14Code.l0, List.length_singleton, if_pos (show (0 : Int) < ((1 : Nat) : Int) by decide), if_pos (show (0 : Int) ≤ 0 by decide), g0]
  refine Ev.bind (spec_IsCircuit_ev x l (by omega)) ?_
  by_cases h : PCirc x l
  · simp only [tt_pos h, if_true, w64 (n := 0 + 1) (by omega)]
    refine Ev_shift ?_
    simp only [spec_l14Code.l0, List.length_singleton, if_neg (show ¬ (0 + 1 : Int) < ((1 : Nat) : Int) by decide), if_neg (show ¬ ((1 : Nat) : Int) > 32 by decide)]
    refine Ev_shift ?_
    simp only [spec_l14Code.l1, List.length_singleton, if_pos (show (0 : Int) < ((1 : Nat) : Int) by decide), if_pos (show (0 : Int) ≤ 0 by decide), g1, l01In_eq, Option.bind_some, decide_eq_true_eq]
    by_cases c1 : 0 ≤ r ∧ r ≤ 1000000000
    · simp only [if_pos c1, w64 (n := 0 + 1) (by omega)]
      refine Ev_shift ?_
      simp only [spec_l14Code.l1, List.length_singleton, if_neg (show ¬ (0 + 1 : Int) < ((1 : Nat) : Int) by decide), l01In_eq, Option.bind_some, decide_eq_true_eq, if_true]
      by_cases c2 : 0 ≤ t ∧ t ≤ 100
      · simp only [if_pos c2, if_pos (show (0 ≤ r ∧ r ≤ 1000000000) ∧ 0 ≤ t ∧ t ≤ 100 from ⟨c1, c2⟩)]
        exact Ev.now _
      · simp only [if_neg c2, if_neg (show ¬ ((0 ≤ r ∧ r ≤ 1000000000) ∧ 0 ≤ t ∧ t ≤ 100) from fun h => c2 h.2)]
        exact Ev.now _
    · simp only [if_neg c1, if_neg (show ¬ ((0 ≤ r ∧ r ≤ 1000000000) ∧ 0 ≤ t ∧ t ≤ 100) from fun h => c1 h.1)]
      exact Ev.now _
  · simp only [tt_neg h, Bool.false_eq_true, if_false]
    exact Ev.now _
theorem good14_l0 (c : List Int) (x : Int) : ∀ (d : Nat) (out : List Int) (a s : Int), Src c a s → out.length + d ≤ 4 → ∃ l a' s', Ev (fun k => spec_l14Good.l0 k d c a s x out) (x, l, a', s') ∧ Src c a' s' ∧ l.length ≤ 4
  | 0, out, a, s, h, hd => by
    refine ⟨out, a, s, Ev_shift ?_, h, by omega⟩
    simp only [spec_l14Good.l0, if_neg (show ¬ ((0 : Nat) : Int) > 0 by decide)]
    exact Ev.now _
  | d + 1, out, a, s, h, hd => by
    obtain ⟨v, a1, s1, e1, h1, _, _⟩ := next_some h 1500 (by omega)
    obtain ⟨l, a', s', e, hs, hl⟩ := good14_l0 c x d (out ++ [wrap64 (1000 + v)]) a1 s1 h1 (by simp; omega)
    refine ⟨l, a', s', Ev_shift ?_, hs, hl⟩
    simp only [spec_l14Good.l0, if_pos (show ((d + 1 : Nat) : Int) > 0 by omega), e1, Option.bind_some, if_pos (show out.length < 17592186044416 by omega), show ((d + 1 : Nat) : Int) - 1 = (d : Int) by omega, w64 (n := (d : Int)) (by omega)]
    exact e
theorem good14_ev {c : List Int} {a s : Int} (h : Src c a s) : ∃ x l a' s', Ev (fun k => spec_l14Good.f k c a s) (x, l, a', s') ∧ Src c a' s' ∧ l.length ≤ 4 := by
  obtain ⟨v1, a1, s1, e1, h1, _, _⟩ := next_some h 2000 (by omega)
  obtain ⟨v2, a2, s2, e2, h2, v0, v3⟩ := next_some h1 4 (by omega)
  obtain ⟨l, a', s', e, hs, hl⟩ := good14_l0 c v1 (1 + v2).toNat [] a2 s2 h2 (by simp; omega)
  rw [show (((1 + v2).toNat : Nat) : Int) = 1 + v2 by omega] at e
  refine ⟨v1, l, a', s', ?_, hs, hl⟩
  unfold spec_l14Good.f
  simp only [e1, e2, Option.bind_some, w64 (n := 1 + v2) (by omega)]
  exact e
theorem fill14_l0 (c : List Int) (x : Int) : ∀ (d : Nat) (out : List Int) (a s : Int), Src c a s → 12 ≤ out.length + d → out.length ≤ 12 → ∃ l a' s', Ev (fun k => spec_l14Draw.l0 k c a s x out) (x, l, a', s') ∧ Src c a' s' ∧ l.length ≤ 30
  | d, out, a, s, h, hd, ho => by
    obtain ⟨v, a1, s1, e1, h1, v0, v1⟩ := next_some h 2 (by omega)
    by_cases c1 : (out.length : Int) < 10 + v
    · cases d with
      | zero => omega
      | succ d =>
        obtain ⟨l, a', s', e, hs, hl⟩ := fill14_l0 c x d (out ++ [1700]) a1 s1 h1 (by simp; omega) (by simp; omega)
        refine ⟨l, a', s', Ev_shift ?_, hs, hl⟩
        simp only [spec_l14Draw.l0, e1, Option.bind_some, w64 (n := 10 + v) (by omega), if_pos c1, if_pos (show out.length < 17592186044416 by omega)]
        exact e
    · refine ⟨out, a1, s1, Ev_shift ?_, h1, by omega⟩
      simp only [spec_l14Draw.l0, e1, Option.bind_some, w64 (n := 10 + v) (by omega), if_neg c1]
      exact Ev.now _
theorem draw14_ev {c : List Int} {a s : Int} (h : Src c a s) : ∃ x l a' s', Ev (fun k => spec_l14Draw.f k c a s) (x, l, a', s') ∧ Src c a' s' ∧ l.length ≤ 30 := by
  obtain ⟨x, l, a1, s1, e1, h1, hl⟩ := good14_ev h
  obtain ⟨u, a2, s2, e2, h2, _, _⟩ := next_some h1 30 (by omega)
  by_cases c0 : u = 0
  · obtain ⟨p, a4, s4, e4, h4, _⟩ := pick_some h2 [(-1), 0, 100000, 100001] (by simp) (by simp)
    refine ⟨p, l, a4, s4, ?_, h4, by omega⟩
    unfold spec_l14Draw.f
    refine Ev.bind e1 ?_
    simp only [e2, Option.bind_some, if_pos c0, e4]
    exact Ev.now _
  · by_cases c1 : u = 1
    · obtain ⟨p, a4, s4, e4, h4, _⟩ := pick_some h2 [0, 1, 100000, 100001] (by simp) (by simp)
      refine ⟨x, l ++ [p], a4, s4, ?_, h4, by simp; omega⟩
      unfold spec_l14Draw.f
      refine Ev.bind e1 ?_
      simp only [e2, Option.bind_some, if_neg c0, if_pos c1, e4, if_pos (show l.length < 17592186044416 by omega)]
      exact Ev.now _
    · by_cases c2 : u = 2
      · obtain ⟨l', a', s', e, hs, hl'⟩ := fill14_l0 c x 12 l a2 s2 h2 (by omega) (by omega)
        refine ⟨x, l', a', s', ?_, hs, hl'⟩
        unfold spec_l14Draw.f
        refine Ev.bind e1 ?_
        simp only [e2, Option.bind_some, if_neg c0, if_neg c1, if_pos c2]
        exact e
      · by_cases c3 : u = 3
        · refine ⟨x, [], a2, s2, ?_, h2, by simp⟩
          unfold spec_l14Draw.f
          refine Ev.bind e1 ?_
          simp only [e2, Option.bind_some, if_neg c0, if_neg c1, if_neg c2, if_pos c3]
          exact Ev.now _
        · refine ⟨x, l, a2, s2, ?_, h2, by omega⟩
          unfold spec_l14Draw.f
          refine Ev.bind e1 ?_
          simp only [e2, Option.bind_some, if_neg c0, if_neg c1, if_neg c2, if_neg c3]
          exact Ev.now _
def PCs (l : List S26) (j : Int) : Prop := PCirc (rd_T26 l j).f0 (rd_T26 l j).f1
def WC1 (l : List S26) : Prop := (l.length : Int) ≤ 32 ∧ ∀ j : Int, 0 ≤ j → j < (l.length : Int) → PCs l j
def WC2 (l : List S26) (r : List Int) (t : Int) : Prop := (∀ j : Int, 0 ≤ j → j < (r.length : Int) → 0 ≤ rd r j ∧ rd r j ≤ 1000000000) ∧ (r.length : Int) = (l.length : Int) ∧ 0 ≤ t ∧ t ≤ 100
theorem rdC_mem (l : List S26) (i : Int) (h0 : 0 ≤ i) (h1 : i < (l.length : Int)) : rd_T26 l i ∈ l := by
  show l.getD _ _ ∈ l
  rw [List.getD_eq_getElem?_getD, List.getElem?_eq_getElem (by omega)]
  exact List.getElem_mem _
noncomputable def wcodeF (l : List S26) (r : List Int) (t : Int) : Int := if tt (WC1 l) = true then (if tt (WC2 l r t) = true then 0 else 2) else 1
theorem wp_code_l1 (l : List S26) (r : List Int) (hr : r.length ≤ 1000000) (t : Int) : ∀ (d : Nat) (i : Int), 0 ≤ i → i + d = r.length → (∀ j : Int, 0 ≤ j → j < i → 0 ≤ rd r j ∧ rd r j ≤ 1000000000) → Ev (fun k => spec_l14Code.l1 k l r t i) (if tt (WC2 l r t) = true then 0 else 2)
  | 0, i, h0, hd, hp => by
    refine Ev_shift ?_
    by_cases c : (r.length : Int) = (l.length : Int)
    · by_cases c2 : 0 ≤ t ∧ t ≤ 100
      · rw [tt_pos (show WC2 l r t from ⟨fun j j0 j1 => hp j j0 (by omega), c, c2⟩), if_pos rfl]
        simp only [spec_l14Code.l1, if_neg (show ¬ i < (r.length : Int) by omega), if_pos c, l01In_eq, Option.bind_some, decide_eq_true c2, if_true]
        exact Ev.now _
      · rw [tt_neg (fun h : WC2 l r t => c2 h.2.2), if_neg (by decide)]
        simp only [spec_l14Code.l1, if_neg (show ¬ i < (r.length : Int) by omega), if_pos c, l01In_eq, Option.bind_some, decide_eq_false c2, Bool.false_eq_true, if_false]
        exact Ev.now _
    · rw [tt_neg (fun h : WC2 l r t => c h.2.1), if_neg (by decide)]
      simp only [spec_l14Code.l1, if_neg (show ¬ i < (r.length : Int) by omega), if_neg c]
      exact Ev.now _
  | d + 1, i, h0, hd, hp => by
    refine Ev_shift ?_
    by_cases c : 0 ≤ rd r i ∧ rd r i ≤ 1000000000
    · simp only [spec_l14Code.l1, if_pos (show i < (r.length : Int) by omega), if_pos h0, l01In_eq, Option.bind_some, decide_eq_true c, if_true, w64 (n := i + 1) (by omega)]
      exact wp_code_l1 l r hr t d (i + 1) (by omega) (by omega) (fun j j0 j1 => by
        by_cases e : j = i
        · rw [e]; exact c
        · exact hp j j0 (by omega))
    · rw [tt_neg (fun h : WC2 l r t => c (h.1 i h0 (by omega))), if_neg (by decide)]
      simp only [spec_l14Code.l1, if_pos (show i < (r.length : Int) by omega), if_pos h0, l01In_eq, Option.bind_some, decide_eq_false c, Bool.false_eq_true, if_false]
      exact Ev.now _
theorem wp_code_l0 (l : List S26) (hl : l.length ≤ 1000000) (hx : ∀ x ∈ l, x.f1.length ≤ 1000000) (r : List Int) (hr : r.length ≤ 1000000) (t : Int) : ∀ (d : Nat) (i : Int), 0 ≤ i → i + d = l.length → (∀ j : Int, 0 ≤ j → j < i → PCs l j) → Ev (fun k => spec_l14Code.l0 k l r t i) (wcodeF l r t)
  | 0, i, h0, hd, hp => by
    refine Ev_shift ?_
    unfold wcodeF
    by_cases c : (l.length : Int) > 32
    · rw [tt_neg (fun h : WC1 l => by have := h.1; omega), if_neg (by decide)]
      simp only [spec_l14Code.l0, if_neg (show ¬ i < (l.length : Int) by omega), if_pos c]
      exact Ev.now _
    · rw [tt_pos (show WC1 l from ⟨by omega, fun j j0 j1 => hp j j0 (by omega)⟩), if_pos rfl]
      simp only [spec_l14Code.l0, if_neg (show ¬ i < (l.length : Int) by omega), if_neg c]
      exact wp_code_l1 l r hr t r.length 0 (by omega) (by omega) (fun j j0 j1 => by omega)
  | d + 1, i, h0, hd, hp => by
    refine Ev_shift ?_
    have hm := hx _ (rdC_mem l i h0 (by omega))
    have hc := spec_IsCircuit_ev (rd_T26 l i).f0 (rd_T26 l i).f1 (by omega)
    by_cases c : PCs l i
    · rw [tt_pos (show PCirc _ _ from c)] at hc
      simp only [spec_l14Code.l0, if_pos (show i < (l.length : Int) by omega), if_pos h0]
      refine Ev.bind hc ?_
      simp only [if_true, w64 (n := i + 1) (by omega)]
      exact wp_code_l0 l hl hx r hr t d (i + 1) (by omega) (by omega) (fun j j0 j1 => by
        by_cases e : j = i
        · rw [e]; exact c
        · exact hp j j0 (by omega))
    · rw [tt_neg (show ¬ PCirc _ _ from c)] at hc
      unfold wcodeF
      rw [tt_neg (fun h : WC1 l => c (h.2 i h0 (by omega))), if_neg (by decide)]
      simp only [spec_l14Code.l0, if_pos (show i < (l.length : Int) by omega), if_pos h0]
      refine Ev.bind hc ?_
      simp only [Bool.false_eq_true, if_false]
      exact Ev.now _
def oddF (l : List S26) (r : List Int) (t : Int) (i : Int) : Bool := decide (¬ stateM (rd_T26 l i).f0 ((rd_T26 l i).f0 + sumI (rd_T26 l i).f1) (rd r i) t = 0)
theorem spec_worst_l0 {l : List S26} (h1 : WC1 l) {r : List Int} {t : Int} (h2 : WC2 l r t) : ∀ (d : Nat) (i : Int) (out : List Int), 0 ≤ i → i + d = l.length → (out.length : Int) ≤ i → Ev (fun k => spec_WorstPins.l0 k l r t out i) (out ++ idxF (oddF l r t) d i, 0)
  | 0, i, out, h0, hd, ho => by
    refine Ev_shift ?_
    simp only [spec_WorstPins.l0, if_neg (show ¬ i < (l.length : Int) by omega), idxF, List.append_nil]
    exact Ev.now _
  | d + 1, i, out, h0, hd, ho => by
    have hl := h1.1
    have he := h2.2.1
    have hs := spec_state_ev (h1.2 i h0 (by omega)) (h2.1 i h0 (by omega)) h2.2.2
    refine Ev_shift ?_
    simp only [spec_WorstPins.l0, if_pos (show i < (l.length : Int) by omega), if_pos h0, if_pos (show i < (r.length : Int) by omega)]
    refine Ev.bind hs ?_
    by_cases c : stateM (rd_T26 l i).f0 ((rd_T26 l i).f0 + sumI (rd_T26 l i).f1) (rd r i) t = 0
    · simp only [if_pos c, w64 (n := i + 1) (by omega)]
      unfold idxF
      rw [if_neg (show ¬ oddF l r t i = true by unfold oddF; simp [c])]
      exact spec_worst_l0 h1 h2 d (i + 1) out (by omega) (by omega) (by omega)
    · simp only [if_neg c, w64 (n := i + 1) (by omega), if_pos (show out.length < 17592186044416 by omega)]
      unfold idxF
      rw [if_pos (show oddF l r t i = true by unfold oddF; simp [c])]
      refine Ev_eq (spec_worst_l0 h1 h2 d (i + 1) (out ++ [i]) (by omega) (by omega) (by simp; omega)) ?_
      simp
theorem impl_worst_l1 {l : List S26} (h1 : WC1 l) {r : List Int} {t : Int} (h2 : WC2 l r t) : ∀ (d : Nat) (i : Int) (out : List Int), 0 ≤ i → i + d = l.length → (out.length : Int) ≤ i → Ev (fun k => impl_WorstPins.l1 k r t out l (l.length : Int) i) (out ++ idxF (oddF l r t) d i, 0)
  | 0, i, out, h0, hd, ho => by
    refine Ev_shift ?_
    simp only [impl_WorstPins.l1, if_neg (show ¬ i < (l.length : Int) by omega), idxF, List.append_nil]
    exact Ev.now _
  | d + 1, i, out, h0, hd, ho => by
    have hl := h1.1
    have he := h2.2.1
    have hs := impl_state_ev (h1.2 i h0 (by omega)) (h2.1 i h0 (by omega)) h2.2.2
    refine Ev_shift ?_
    simp only [impl_WorstPins.l1, if_pos (show i < (l.length : Int) by omega), if_pos h0, if_pos (show i < (r.length : Int) by omega)]
    refine Ev.bind hs ?_
    by_cases c : stateM (rd_T26 l i).f0 ((rd_T26 l i).f0 + sumI (rd_T26 l i).f1) (rd r i) t = 0
    · simp only [if_pos c, w64 (n := i + 1) (by omega)]
      unfold idxF
      rw [if_neg (show ¬ oddF l r t i = true by unfold oddF; simp [c])]
      exact impl_worst_l1 h1 h2 d (i + 1) out (by omega) (by omega) (by omega)
    · simp only [if_neg c, w64 (n := i + 1) (by omega), if_pos (show out.length < 17592186044416 by omega)]
      unfold idxF
      rw [if_pos (show oddF l r t i = true by unfold oddF; simp [c])]
      refine Ev_eq (impl_worst_l1 h1 h2 d (i + 1) (out ++ [i]) (by omega) (by omega) (by simp; omega)) ?_
      simp
noncomputable def worstF (l : List S26) (r : List Int) (t : Int) : List Int × Int := if wcodeF l r t = 0 then (idxF (oddF l r t) l.length 0, 0) else ([], wcodeF l r t)
theorem impl_worst_l0 (l : List S26) (hl : (l.length : Int) ≤ 32) (hx : ∀ x ∈ l, x.f1.length ≤ 1000000) (r : List Int) (hr : r.length ≤ 1000000) (t : Int) : ∀ (d : Nat) (i : Int), 0 ≤ i → i + d = l.length → (∀ j : Int, 0 ≤ j → j < i → PCs l j) → Ev (fun k => impl_WorstPins.l0 k l r t l (l.length : Int) i) (worstF l r t)
  | 0, i, h0, hd, hp => by
    have h1 : WC1 l := ⟨hl, fun j j0 j1 => hp j j0 (by omega)⟩
    have bad : ¬ WC2 l r t → Ev (fun k => impl_WorstPins.j1 k l r t true) (worstF l r t) := fun h => by
      have e : wcodeF l r t = 2 := by unfold wcodeF; rw [tt_pos h1, tt_neg h, if_pos rfl, if_neg (by decide)]
      unfold worstF
      rw [e, if_neg (by decide)]
      refine Ev_shift ?_
      simp only [impl_WorstPins.j1, if_true]
      exact Ev.now _
    refine Ev_shift ?_
    simp only [impl_WorstPins.l0, if_neg (show ¬ i < (l.length : Int) by omega)]
    by_cases c : (r.length : Int) = (l.length : Int)
    · simp only [if_pos c]
      have hw : Ev (fun k => impl_allWithin.f k r 0 1000000000) (tt (∀ j : Int, 0 ≤ j → j < (r.length : Int) → 0 ≤ rd r j ∧ rd r j ≤ 1000000000)) := by
        unfold impl_allWithin.f
        have h := ev_all (L := fun i k => impl_allWithin.l0 k 0 1000000000 r (r.length : Int) i) (P := fun i => 0 ≤ rd r i ∧ rd r i ≤ 1000000000) (n := (r.length : Int)) (fin := true) (fun i i0 i1 hp r' hr' => by
          refine Ev_shift ?_
          simp only [impl_allWithin.l0, if_pos i1, if_pos i0, within_eq, Option.bind_some, decide_eq_true hp, if_true, w64 (n := i + 1) (by omega)]
          exact hr') (fun i i0 i1 hp => by
          refine Ev_shift ?_
          simp only [impl_allWithin.l0, if_pos i1, if_pos i0, within_eq, Option.bind_some, decide_eq_false hp, Bool.false_eq_true, if_false]
          exact Ev.now _) (by
          refine Ev_shift ?_
          simp only [impl_allWithin.l0, if_neg (show ¬ (r.length : Int) < (r.length : Int) by omega)]
          exact Ev.now _) r.length 0 (by omega) (by omega)
        refine Ev_eq h ?_
        rw [Bool.true_and]
      refine Ev.bind hw ?_
      by_cases c2 : ∀ j : Int, 0 ≤ j → j < (r.length : Int) → 0 ≤ rd r j ∧ rd r j ≤ 1000000000
      · simp only [tt_pos c2, if_true, within_eq, Option.bind_some]
        by_cases c3 : 0 ≤ t ∧ t ≤ 100
        · have h2 : WC2 l r t := ⟨c2, c, c3⟩
          have e : wcodeF l r t = 0 := by unfold wcodeF; rw [tt_pos h1, tt_pos h2, if_pos rfl, if_pos rfl]
          simp only [decide_eq_true c3, Bool.not_true]
          unfold worstF
          rw [e, if_pos rfl]
          refine Ev_shift ?_
          simp only [impl_WorstPins.j1, Bool.false_eq_true, if_false]
          have := impl_worst_l1 h1 h2 l.length 0 [] (by omega) (by omega) (by simp)
          simpa using this
        · simp only [decide_eq_false c3, Bool.not_false]
          exact bad (fun h => c3 h.2.2)
      · simp only [tt_neg c2, Bool.false_eq_true, if_false]
        exact bad (fun h => c2 h.1)
    · simp only [if_neg c]
      exact bad (fun h => c h.2.1)
  | d + 1, i, h0, hd, hp => by
    refine Ev_shift ?_
    have hm := hx _ (rdC_mem l i h0 (by omega))
    have hc := impl_IsCircuit_ev (rd_T26 l i).f0 (rd_T26 l i).f1 (by omega)
    simp only [impl_WorstPins.l0, if_pos (show i < (l.length : Int) by omega), if_pos h0]
    refine Ev.bind hc ?_
    by_cases c : PCs l i
    · rw [tt_pos (show PCirc _ _ from c)]
      simp only [if_true, w64 (n := i + 1) (by omega)]
      exact impl_worst_l0 l hl hx r hr t d (i + 1) (by omega) (by omega) (fun j j0 j1 => by
        by_cases e : j = i
        · rw [e]; exact c
        · exact hp j j0 (by omega))
    · rw [tt_neg (show ¬ PCirc _ _ from c)]
      simp only [Bool.false_eq_true, if_false]
      have e : wcodeF l r t = 1 := by unfold wcodeF; rw [tt_neg (fun h : WC1 l => c (h.2 i h0 (by omega))), if_neg (by decide)]
      unfold worstF
      rw [e, if_neg (by decide)]
      exact Ev.now _
theorem wcodeF_ok {m0 : List S26} {m1 : List Int} {a2 : Int} (c : wcodeF m0 m1 a2 = 0) : WC1 m0 ∧ WC2 m0 m1 a2 := by
  unfold wcodeF at c
  by_cases h1 : WC1 m0
  · by_cases h2 : WC2 m0 m1 a2
    · exact ⟨h1, h2⟩
    · rw [tt_pos h1, tt_neg h2, if_pos rfl, if_neg (by decide)] at c
      omega
  · rw [tt_neg h1, if_neg (by decide)] at c
    omega
theorem worst_ev (m0 : List S26) (m1 : List Int) (a2 : Int) (hn0 : m0.length ≤ 1000000) (hx0 : ∀ x ∈ m0, x.f1.length ≤ 1000000) (hn1 : m1.length ≤ 1000000) : Ev (fun k => spec_WorstPins.f k m0 m1 a2) (worstF m0 m1 a2) ∧ Ev (fun k => impl_WorstPins.f k m0 m1 a2) (worstF m0 m1 a2) := by
  have hc := wp_code_l0 m0 hn0 hx0 m1 hn1 a2 m0.length 0 (by omega) (by omega) (fun j j0 j1 => by omega)
  have hs : Ev (fun k => spec_WorstPins.f k m0 m1 a2) (worstF m0 m1 a2) := by
    unfold spec_WorstPins.f spec_l14Code.f
    refine Ev.bind hc ?_
    by_cases c : wcodeF m0 m1 a2 = 0
    · have h12 := wcodeF_ok c
      simp only [if_pos c]
      unfold worstF
      rw [if_pos c]
      have := spec_worst_l0 h12.1 h12.2 m0.length 0 [] (by omega) (by omega) (by simp)
      simpa using this
    · simp only [if_neg c]
      unfold worstF
      rw [if_neg c]
      exact Ev.now _
  have hi : Ev (fun k => impl_WorstPins.f k m0 m1 a2) (worstF m0 m1 a2) := by
    unfold impl_WorstPins.f
    by_cases c : (m0.length : Int) > 32
    · have e : wcodeF m0 m1 a2 = 1 := by unfold wcodeF; rw [tt_neg (fun h : WC1 m0 => by have := h.1; omega), if_neg (by decide)]
      simp only [if_pos c]
      unfold worstF
      rw [e, if_neg (by decide)]
      exact Ev.now _
    · simp only [if_neg c]
      exact impl_worst_l0 m0 (by omega) hx0 m1 hn1 a2 m0.length 0 (by omega) (by omega) (fun j j0 j1 => by omega)
  exact ⟨hs, hi⟩
theorem worstF_len (m0 : List S26) (m1 : List Int) (a2 : Int) (hn0 : m0.length ≤ 1000000) : (worstF m0 m1 a2).1.length ≤ 10000000 := by
  have := idxF_length (oddF m0 m1 a2) m0.length 0
  unfold worstF
  split
  · show List.length (idxF _ _ _) ≤ _
    omega
  · simp
theorem worstF_ok {m0 : List S26} {m1 : List Int} {a2 : Int} (h : (worstF m0 m1 a2).2 = 0) : WC1 m0 ∧ WC2 m0 m1 a2 ∧ (worstF m0 m1 a2).1 = idxF (oddF m0 m1 a2) m0.length 0 := by
  by_cases c : wcodeF m0 m1 a2 = 0
  · have h12 := wcodeF_ok c
    refine ⟨h12.1, h12.2, ?_⟩
    unfold worstF
    rw [if_pos c]
  · exfalso
    unfold worstF at h
    rw [if_neg c] at h
    exact c h
theorem expx_val (x : Int) (l : List Int) (hn : l.length ≤ 1000000) : ∃ q : Int × Int, Ev (fun k => spec_ExpectedOf.f k x l) q ∧ Ev (fun k => impl_ExpectedOf.f k x l) q ∧ ((PCirc x l ∧ q = (x + sumI l, 0)) ∨ (¬ PCirc x l ∧ q = (0, 1))) := by
  have hs := spec_IsCircuit_ev x l (by omega)
  have hi := impl_IsCircuit_ev x l (by omega)
  by_cases h : PCirc x l
  · rw [tt_pos h] at hs hi
    refine ⟨(x + sumI l, 0), ?_, ?_, Or.inl ⟨h, rfl⟩⟩
    · unfold spec_ExpectedOf.f
      refine Ev.bind hs ?_
      simp only [if_true]
      exact Ev.bind (spec_exp_ev h) (Ev.now _)
    · unfold impl_ExpectedOf.f
      refine Ev.bind hi ?_
      simp only [if_true]
      exact Ev.bind (impl_exp_ev h) (Ev.now _)
  · rw [tt_neg h] at hs hi
    refine ⟨(0, 1), ?_, ?_, Or.inr ⟨h, rfl⟩⟩
    · unfold spec_ExpectedOf.f
      refine Ev.bind hs ?_
      simp only [Bool.false_eq_true, if_false]
      exact Ev.now _
    · unfold impl_ExpectedOf.f
      refine Ev.bind hi ?_
      simp only [Bool.false_eq_true, if_false]
      exact Ev.now _
theorem stateM_rng (x e r t : Int) : 0 ≤ stateM x e r t ∧ stateM x e r t ≤ 3 := by
  unfold stateM
  split
  · omega
  · split
    · omega
    · split <;> omega
theorem state_val (x : Int) (l : List Int) (r t : Int) (hn : l.length ≤ 1000000) : ∃ q : Int × Int, Ev (fun k => spec_StateOf.f k x l r t) q ∧ Ev (fun k => impl_StateOf.f k x l r t) q ∧ (PCirc x l → (0 ≤ r ∧ r ≤ 1000000000) → (0 ≤ t ∧ t ≤ 100) → q = (stateM x (x + sumI l) r t, 0)) ∧ (q.2 ≠ 0 ∨ (0 ≤ q.1 ∧ q.1 ≤ 3)) := by
  have hs := ccode1_ev x l hn r t
  have hi := impl_IsCircuit_ev x l (by omega)
  by_cases h : PCirc x l
  · simp only [tt_pos h, if_true] at hs hi
    by_cases c1 : 0 ≤ r ∧ r ≤ 1000000000
    · by_cases c2 : 0 ≤ t ∧ t ≤ 100
      · rw [if_pos ⟨c1, c2⟩] at hs
        refine ⟨(stateM x (x + sumI l) r t, 0), ?_, ?_, fun _ _ _ => rfl, Or.inr (stateM_rng _ _ _ _)⟩
        · unfold spec_StateOf.f
          refine Ev.bind hs ?_
          simp only [if_true]
          exact Ev.bind (spec_state_ev h c1 c2) (Ev.now _)
        · unfold impl_StateOf.f
          refine Ev.bind hi ?_
          simp only [if_true, impl_isReading.f, within_eq, Option.bind_some, decide_eq_true_eq, if_pos c1, if_pos c2]
          exact Ev.bind (impl_state_ev h c1 c2) (Ev.now _)
      · rw [if_neg (fun hh => c2 hh.2)] at hs
        refine ⟨(0, 2), ?_, ?_, fun _ _ h3 => absurd h3 c2, Or.inl (by decide)⟩
        · unfold spec_StateOf.f
          exact Ev.bind hs (Ev.now _)
        · unfold impl_StateOf.f
          refine Ev.bind hi ?_
          simp only [if_true, impl_isReading.f, within_eq, Option.bind_some, decide_eq_true_eq, if_pos c1, if_neg c2]
          exact Ev.now _
    · rw [if_neg (fun hh => c1 hh.1)] at hs
      refine ⟨(0, 2), ?_, ?_, fun _ h2 _ => absurd h2 c1, Or.inl (by decide)⟩
      · unfold spec_StateOf.f
        exact Ev.bind hs (Ev.now _)
      · unfold impl_StateOf.f
        refine Ev.bind hi ?_
        simp only [if_true, impl_isReading.f, within_eq, Option.bind_some, decide_eq_true_eq, if_neg c1]
        exact Ev.now _
  · simp only [tt_neg h, Bool.false_eq_true, if_false] at hs hi
    refine ⟨(0, 1), ?_, ?_, fun h1 _ _ => absurd h1 h, Or.inl (by decide)⟩
    · unfold spec_StateOf.f
      exact Ev.bind hs (Ev.now _)
    · unfold impl_StateOf.f
      refine Ev.bind hi ?_
      simp only [Bool.false_eq_true, if_false]
      exact Ev.now _
theorem read14_j0 (e : Int) {c : List Int} {a s : Int} (h : Src c a s) : ∃ v a' s', Ev (fun k => spec_l14Reading.j0 k e c a s) (v, a', s') ∧ Src c a' s' := by
  obtain ⟨v1, a1, s1, e1, h1, _, _⟩ := next_some h 3000 (by omega)
  obtain ⟨v2, a2, s2, e2, h2, _, _⟩ := next_some h1 100000 (by omega)
  obtain ⟨v3, a3, s3, e3, h3, _⟩ := pick_some h2 [0, 1000000000, 1000000001, (-1)] (by simp) (by simp)
  obtain ⟨v4, a4, s4, e4, h4, _⟩ := pick_some h3 [e, wrap64 (e + (wrap64 (Int.tdiv e 10))), wrap64 (e - (wrap64 (Int.tdiv e 10))), wrap64 ((wrap64 (e + (wrap64 (Int.tdiv e 10)))) + 1), v1, wrap64 (10 * e), wrap64 ((wrap64 (10 * e)) - 1), v2, v3] (by simp) (by simp)
  refine ⟨v4, a4, s4, Ev_shift ?_, h4⟩
  simp only [spec_l14Reading.j0, e1, e2, e3, e4, Option.bind_some]
  exact Ev.now _
theorem read14_ev {c : List Int} {a s : Int} (h : Src c a s) (x : Int) (l : List Int) (hl : l.length ≤ 1000000) : ∃ v a' s', Ev (fun k => spec_l14Reading.f k c a s x l) (v, a', s') ∧ Src c a' s' := by
  have hc := spec_IsCircuit_ev x l (by omega)
  by_cases p : PCirc x l
  · rw [tt_pos p] at hc
    obtain ⟨v, a', s', e, h'⟩ := read14_j0 (x + sumI l) h
    refine ⟨v, a', s', ?_, h'⟩
    unfold spec_l14Reading.f
    refine Ev.bind hc ?_
    simp only [if_true]
    exact Ev.bind (spec_exp_ev p) e
  · rw [tt_neg p] at hc
    obtain ⟨v, a', s', e, h'⟩ := read14_j0 5000 h
    refine ⟨v, a', s', ?_, h'⟩
    unfold spec_l14Reading.f
    refine Ev.bind hc ?_
    simp only [Bool.false_eq_true, if_false]
    exact e
theorem drawState_ev (c : List Int) (hc : c.length ≤ 4096) (hb : ∀ x ∈ c, 0 ≤ x ∧ x ≤ 255) : ∃ (x : Int) (l : List Int) (r t : Int), Ev (fun k => spec_DrawStateOf.f k c) (x, l, r, t) ∧ l.length ≤ 30 := by
  obtain ⟨s, e0, h0⟩ := from_ev c hc hb
  obtain ⟨x, l, a1, s1, e1, h1, hl⟩ := draw14_ev h0
  obtain ⟨r, a2, s2, e2, h2⟩ := read14_ev h1 x l (by omega)
  obtain ⟨t, a3, s3, e3, h3, _⟩ := pick_some h2 [10, 10, 5, 0, 100, 101, (-1)] (by simp) (by simp)
  refine ⟨x, l, r, t, ?_, hl⟩
  unfold spec_DrawStateOf.f
  refine Ev.bind e0 (Ev.bind e1 (Ev.bind e2 ?_))
  simp only [e3, Option.bind_some]
  exact Ev.now _
def Drawn14 (q : List S26 × List Int × Int) : Prop := q.1.length ≤ 100 ∧ (∀ x ∈ q.1, x.f1.length ≤ 30) ∧ q.2.1.length ≤ 100
theorem dworst_l1 (c : List Int) (x : Int) (l : List Int) (hl : l.length ≤ 30) : ∀ (d : Nat) (L : List S26) (R : List Int) (a s : Int), Src c a s → 34 ≤ L.length + d → L.length ≤ 34 → R.length + d ≤ 90 → (∀ y ∈ L, y.f1.length ≤ 30) → ∃ q, Ev (fun k => spec_DrawWorstPins.l1 k L R c a s x l) q ∧ Drawn14 q
  | d, L, R, a, s, h, hd, hL, hR, hx => by
    obtain ⟨v, a1, s1, e1, h1, v0, v1⟩ := next_some h 2 (by omega)
    by_cases c1 : (L.length : Int) < 32 + v
    · cases d with
      | zero => omega
      | succ d =>
        obtain ⟨q, e, hq⟩ := dworst_l1 c x l hl d (L ++ [(⟨x, l⟩ : S26)]) (R ++ [4000]) a1 s1 h1 (by simp; omega) (by simp; omega) (by simp; omega) (fun y hy => by
          rcases List.mem_append.1 hy with hy | hy
          · exact hx y hy
          · rw [List.mem_singleton.1 hy]
            exact hl)
        refine ⟨q, Ev_shift ?_, hq⟩
        simp only [spec_DrawWorstPins.l1, e1, Option.bind_some, w64 (n := 32 + v) (by omega), if_pos c1, if_pos (show L.length < 4398046511104 by omega), if_pos (show R.length < 17592186044416 by omega)]
        exact e
    · obtain ⟨p, a2, s2, e2, h2, _⟩ := pick_some h1 [10, 5, 100, 0, 101] (by simp) (by simp)
      refine ⟨(L, R, p), Ev_shift ?_, by show L.length ≤ 100; omega, hx, by show R.length ≤ 100; omega⟩
      simp only [spec_DrawWorstPins.l1, e1, Option.bind_some, w64 (n := 32 + v) (by omega), if_neg c1, e2]
      exact Ev.now _
theorem dworst_l0 (c : List Int) : ∀ (d : Nat) (L : List S26) (R : List Int) (a s : Int), Src c a s → L.length + d ≤ 8 → R.length + d ≤ 8 → (∀ y ∈ L, y.f1.length ≤ 30) → ∃ q, Ev (fun k => spec_DrawWorstPins.l0 k L R d c a s) q ∧ Drawn14 q
  | 0, L, R, a, s, h, hL, hR, hx => by
    obtain ⟨v, a1, s1, e1, h1, v0, v1⟩ := next_some h 24 (by omega)
    by_cases c0 : v = 0
    · obtain ⟨p, a2, s2, e2, h2, _⟩ := pick_some h1 [10, 5, 100, 0, 101] (by simp) (by simp)
      refine ⟨(L, R ++ [1], p), Ev_shift ?_, by show L.length ≤ 100; omega, hx, by show (R ++ [1]).length ≤ 100; simp; omega⟩
      simp only [spec_DrawWorstPins.l0, if_neg (show ¬ ((0 : Nat) : Int) > 0 by decide), e1, Option.bind_some, if_pos c0, if_pos (show R.length < 17592186044416 by omega), e2]
      exact Ev.now _
    · by_cases c1 : v = 1
      · obtain ⟨x, l, a2, s2, e2, h2, hl⟩ := good14_ev h1
        obtain ⟨q, e, hq⟩ := dworst_l1 c x l (by omega) 34 L R a2 s2 h2 (by omega) (by omega) (by omega) hx
        refine ⟨q, Ev_shift ?_, hq⟩
        simp only [spec_DrawWorstPins.l0, if_neg (show ¬ ((0 : Nat) : Int) > 0 by decide), e1, Option.bind_some, if_neg c0, if_pos c1]
        exact Ev.bind e2 e
      · obtain ⟨p, a2, s2, e2, h2, _⟩ := pick_some h1 [10, 5, 100, 0, 101] (by simp) (by simp)
        refine ⟨(L, R, p), Ev_shift ?_, by show L.length ≤ 100; omega, hx, by show R.length ≤ 100; omega⟩
        simp only [spec_DrawWorstPins.l0, if_neg (show ¬ ((0 : Nat) : Int) > 0 by decide), e1, Option.bind_some, if_neg c0, if_neg c1, e2]
        exact Ev.now _
  | d + 1, L, R, a, s, h, hL, hR, hx => by
    obtain ⟨x, l, a1, s1, e1, h1, hl⟩ := draw14_ev h
    obtain ⟨r, a2, s2, e2, h2⟩ := read14_ev h1 x l (by omega)
    obtain ⟨q, e, hq⟩ := dworst_l0 c d (L ++ [(⟨x, l⟩ : S26)]) (R ++ [r]) a2 s2 h2 (by simp; omega) (by simp; omega) (fun y hy => by
      rcases List.mem_append.1 hy with hy | hy
      · exact hx y hy
      · rw [List.mem_singleton.1 hy]
        exact hl)
    refine ⟨q, Ev_shift ?_, hq⟩
    simp only [spec_DrawWorstPins.l0, if_pos (show ((d + 1 : Nat) : Int) > 0 by omega)]
    refine Ev.bind e1 ?_
    simp only [if_pos (show L.length < 4398046511104 by omega)]
    refine Ev.bind e2 ?_
    simp only [if_pos (show R.length < 17592186044416 by omega), show ((d + 1 : Nat) : Int) - 1 = (d : Int) by omega, w64 (n := (d : Int)) (by omega)]
    exact e
theorem drawWorst_ev (c : List Int) (hc : c.length ≤ 4096) (hb : ∀ x ∈ c, 0 ≤ x ∧ x ≤ 255) : ∃ q, Ev (fun k => spec_DrawWorstPins.f k c) q ∧ Drawn14 q := by
  obtain ⟨s, e0, h0⟩ := from_ev c hc hb
  obtain ⟨n, a1, s1, e1, h1, n0, n1⟩ := next_some h0 6 (by omega)
  obtain ⟨q, e, hq⟩ := dworst_l0 c n.toNat [] [] a1 s1 h1 (by simp; omega) (by simp; omega) (fun y hy => by cases hy)
  rw [show ((n.toNat : Nat) : Int) = n by omega] at e
  refine ⟨q, ?_, hq⟩
  unfold spec_DrawWorstPins.f
  refine Ev.bind e0 ?_
  simp only [e1, Option.bind_some]
  exact e
theorem circs_l0 {x6 x7 : Int} (h67 : x7 = 0 → 0 ≤ x6 ∧ x6 ≤ 3) {l : List S26} {r : List Int} {t : Int} (h1 : WC1 l) (h2 : WC2 l r t) : ∀ (d : Nat) (i : Int), 0 ≤ i → i + d = l.length → Ev (fun k => laws_FnCircuits.l0 k x6 x7 l r t (idxF (oddF l r t) l.length 0) 0 i) true
  | 0, i, h0, hd => by
    refine Ev_shift ?_
    simp only [laws_FnCircuits.l0, if_true, decide_eq_false (show ¬ i < (l.length : Int) by omega)]
    refine Ev_shift ?_
    simp only [laws_FnCircuits.j3, Bool.false_eq_true, if_false]
    by_cases c : x7 = 0
    · have := h67 c
      simp only [if_pos c, if_pos (show x6 ≥ 0 by omega), decide_eq_true this.2]
      exact Ev.now _
    · simp only [if_neg c]
      exact Ev.now _
  | d + 1, i, h0, hd => by
    have hl := h1.1
    have he := h2.2.1
    have hp := h1.2 i h0 (by omega)
    obtain ⟨q, _, hq, hv, _⟩ := state_val (rd_T26 l i).f0 (rd_T26 l i).f1 (rd r i) t (by have := hp.2.1; omega)
    have hv' := hv hp (h2.1 i h0 (by omega)) h2.2.2
    subst hv'
    refine Ev_shift ?_
    simp only [laws_FnCircuits.l0, if_true, decide_eq_true (show i < (l.length : Int) by omega)]
    refine Ev_shift ?_
    simp only [laws_FnCircuits.j3, if_true, if_pos h0, if_pos (show i < (l.length : Int) by omega), if_pos (show i < (r.length : Int) by omega)]
    refine Ev.bind hq ?_
    simp only [if_true]
    have hlen := idxF_length (oddF l r t) l.length 0
    refine Ev.bind (hasInt_dec _ (by omega) i) ?_
    have key : (decide (i ∈ idxF (oddF l r t) l.length 0) != (stateM (rd_T26 l i).f0 ((rd_T26 l i).f0 + sumI (rd_T26 l i).f1) (rd r i) t != 0)) = false := by
      by_cases c : stateM (rd_T26 l i).f0 ((rd_T26 l i).f0 + sumI (rd_T26 l i).f1) (rd r i) t = 0
      · have hm : ¬ i ∈ idxF (oddF l r t) l.length 0 := fun h => by
          have := ((idxF_mem _ _ _ _).1 h).2.2
          unfold oddF at this
          exact of_decide_eq_true this c
        rw [decide_eq_false hm, c]
        rfl
      · have hm : i ∈ idxF (oddF l r t) l.length 0 := (idxF_mem _ _ _ _).2 ⟨h0, by omega, by unfold oddF; exact decide_eq_true c⟩
        rw [decide_eq_true hm, bne_iff_ne.2 c]
        rfl
    simp only [key, Bool.false_eq_true, if_false, w64 (n := i + 1) (by omega)]
    exact circs_l0 h67 h1 h2 d (i + 1) (by omega) (by omega)
theorem circs_j1 {x6 x7 : Int} (h67 : x7 = 0 → 0 ≤ x6 ∧ x6 ≤ 3) (l : List S26) (r : List Int) (t : Int) : Ev (fun k => laws_FnCircuits.j1 k x6 x7 l r t (worstF l r t).1 (worstF l r t).2) true := by
  refine Ev_shift ?_
  simp only [laws_FnCircuits.j1]
  by_cases c : (worstF l r t).2 = 0
  · obtain ⟨h1, h2, e⟩ := worstF_ok c
    rw [c, e]
    exact circs_l0 h67 h1 h2 l.length 0 (by omega) (by omega)
  · refine Ev_shift ?_
    simp only [laws_FnCircuits.l0, if_neg c]
    refine Ev_shift ?_
    simp only [laws_FnCircuits.j3, Bool.false_eq_true, if_false]
    by_cases c : x7 = 0
    · have := h67 c
      simp only [if_pos c, if_pos (show x6 ≥ 0 by omega), decide_eq_true this.2]
      exact Ev.now _
    · simp only [if_neg c]
      exact Ev.now _
theorem FnCircuits : laws_FnCircuits.Pure := by
  intro c _ _ hw
  have hb := u8_rng hw
  by_cases big : (c.length : Int) > 4096
  · refine ⟨0, ?_⟩
    unfold laws_FnCircuits.f laws_big.f
    simp only [Option.bind_some, decide_eq_true big, if_true]
  · suffices hq : Ev (fun k => laws_FnCircuits.f k c) true by
      obtain ⟨K, hK⟩ := hq
      exact ⟨K, hK K (Nat.le_refl _)⟩
    obtain ⟨x, l, r, t, ed, hl⟩ := drawState_ev c (by omega) hb
    obtain ⟨⟨L, R, T⟩, ew, hL, hx, hR⟩ := drawWorst_ev c (by omega) hb
    simp only at hL hx hR
    obtain ⟨⟨s, bad⟩, ss, si, sv, sr⟩ := state_val x l r t (by omega)
    obtain ⟨⟨e, one⟩, es, ei, ev⟩ := expx_val x l (by omega)
    obtain ⟨ws, wi⟩ := worst_ev L R T (by omega) (fun y hy => by have := hx y hy; omega) (by omega)
    have wl := worstF_len L R T (by omega)
    have h67 : bad = 0 → 0 ≤ s ∧ s ≤ 3 := fun h => by
      rcases sr with h' | h'
      · exact absurd h h'
      · exact h'
    have hi := impl_IsCircuit_ev x l (by omega)
    have j1 := circs_j1 h67 L R T
    unfold laws_FnCircuits.f laws_big.f
    simp only [Option.bind_some, decide_eq_false big, Bool.false_eq_true, if_false]
    refine Ev.bind ed (Ev.bind si (Ev.bind ss (Ev.bind ei (Ev.bind es (Ev.bind ew (Ev.bind wi (Ev.bind ws ?_)))))))
    simp only [if_true]
    refine Ev.bind (likeInts_self _ wl) ?_
    simp only [if_true]
    refine Ev.bind hi ?_
    rcases ev with ⟨hp, ev⟩ | ⟨hp, ev⟩
    · injection ev with e1 e2
      subst e1 e2
      have hr := circ_rng hp
      obtain ⟨q, _, qi, qv, _⟩ := state_val x l (x + sumI l) 0 (by omega)
      have qe := qv hp (by omega) (by omega)
      have z : stateM x (x + sumI l) (x + sumI l) 0 = 0 := by
        unfold stateM
        rw [if_pos]
        rw [if_neg (by omega)]
        omega
      rw [z] at qe
      subst qe
      rw [tt_pos hp]
      refine Ev_shift ?_
      simp only [laws_FnCircuits.j0, show ((true != ((0 : Int) == 0)) = true) = False by simp, if_false, if_true]
      refine Ev.bind qi ?_
      simp only [if_true]
      exact j1
    · injection ev with e1 e2
      subst e1 e2
      rw [tt_neg hp]
      refine Ev_shift ?_
      simp only [laws_FnCircuits.j0, show ((false != ((1 : Int) == 0)) = true) = False by simp, if_false, if_neg (show ¬ (1 : Int) = 0 by decide)]
      exact j1
end Go.Proofs.Ytmahecjbejffoaa.Pure
