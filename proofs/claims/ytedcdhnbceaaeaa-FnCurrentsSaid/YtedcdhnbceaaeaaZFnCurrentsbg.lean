/- PureFnCurrents of the law FnCurrents: taken over, declaration by declaration, as far as the law leans on it (the words and the printed functions are the kit's own print). No condition but what each says. -/
import Derived.Test.YtedcdhnbceaaeaaZFnCurrentsav
import Derived.Test.YtedcdhnbceaaeaaZFnCurrentsax
import Derived.Test.YtedcdhnbceaaeaaZFnCurrentsay
import Derived.Test.YtedcdhnbceaaeaaZFnCurrentsaz
import Derived.Test.YtedcdhnbceaaeaaZFnCurrentsba
import Derived.Test.YtedcdhnbceaaeaaZFnCurrentsbb
import Derived.Test.YtedcdhnbceaaeaaZFnCurrentsbc
import Derived.Test.YtedcdhnbceaaeaaZFnCurrentsbd
import Derived.Test.YtedcdhnbceaaeaaZFnCurrentsbe
import Derived.Test.YtedcdhnbceaaeaaZFnCurrentsbf
namespace Go.Proofs.Ytedcdhnbceaaeaa.Pure
open Go.RowKit Go.Proofs.Ytedcdhnbceaaeaa.PFnCurrents Go.Proofs.YtedcdhnbceaaeaaW.PrintWords Go.Proofs.YtedcdhnbceaaeaaW.PrintLast Go.Proofs.Ytedcdhnbceaaeaa.Opening
set_option linter.unusedVariables false
set_option linter.unusedSimpArgs false
theorem w64 {n : Int} (h : -9223372036854775808 ≤ n ∧ n ≤ 9223372036854775807) : wrap64 n = n := by
  unfold wrap64
  omega
theorem l01In_eq (a b c : Int) : spec_l01In.f a b c = some (decide (b ≤ a ∧ a ≤ c)) := by
  unfold spec_l01In.f
  by_cases h : b ≤ a <;> simp [h]
theorem within_eq (a b c : Int) : impl_within.f a b c = some (decide (b ≤ a ∧ a ≤ c)) := by
  unfold impl_within.f
  by_cases h : b ≤ a <;> simp [h]
theorem drop_cons {α : Type} {l : List α} {i : Int} {a : α} {s : List α} (z : α) (h0 : 0 ≤ i) (h : l.drop i.toNat = a :: s) : i < l.length ∧ l.getD i.toNat z = a ∧ l.drop (i + 1).toNat = s := by
  have hlt : i.toNat < l.length := by
    rcases Nat.lt_or_ge i.toNat l.length with h1 | h1
    · exact h1
    · rw [List.drop_eq_nil_of_le h1] at h; cases h
  rw [List.drop_eq_getElem_cons hlt] at h
  injection h with h1 h2
  refine ⟨by omega, ?_, ?_⟩
  · rw [List.getD_eq_getElem?_getD, List.getElem?_eq_getElem hlt]; exact h1
  · rw [show (i + 1).toNat = i.toNat + 1 by omega]; exact h2
theorem drop_nil {α : Type} {l : List α} {i : Int} (h0 : 0 ≤ i) (h : l.drop i.toNat = []) : ¬ i < (l.length : Int) := by
  have := List.drop_eq_nil_iff.1 h
  omega
theorem Ev_shift {α : Type} {g : Nat → Option α} {r : α} (h : Ev (fun k => g (k + 1)) r) : Ev g r := Ev.step (fun _ => rfl) h
theorem Ev_eq {α : Type} {g : Nat → Option α} {r q : α} (h : Ev g r) (e : r = q) : Ev g q := e ▸ h
theorem Ev_some {α : Type} {r q : α} (e : r = q) : Ev (fun _ => some r) q := e ▸ Ev.now r
noncomputable def tt (p : Prop) : Bool := @decide p (Classical.propDecidable p)
theorem tt_pos {p : Prop} (h : p) : tt p = true := by unfold tt; exact @decide_eq_true p (Classical.propDecidable p) h
theorem tt_neg {p : Prop} (h : ¬ p) : tt p = false := by unfold tt; exact @decide_eq_false p (Classical.propDecidable p) h
theorem tt_dec (p : Prop) [i : Decidable p] : tt p = decide p := by
  by_cases h : p
  · rw [tt_pos h, decide_eq_true h]
  · rw [tt_neg h, decide_eq_false h]
theorem tt_iff {p q : Prop} (h : p ↔ q) : tt p = tt q := by rw [propext h]
theorem rd_mem {l : List Int} {i : Int} (h0 : 0 ≤ i) (h1 : i < l.length) : rd l i ∈ l := by
  have hlt : i.toNat < l.length := by omega
  have e : rd l i = l[i.toNat] := by
    show l.getD i.toNat _ = _
    rw [List.getD_eq_getElem?_getD, List.getElem?_eq_getElem hlt]
    rfl
  rw [e]
  exact List.getElem_mem hlt
/-- A source of drawn numbers. -/
def Src (c : List Int) (a s : Int) : Prop := (0 ≤ a ∧ a ≤ c.length ∧ c.length ≤ 4096) ∧ (0 ≤ s ∧ s < 2147483647) ∧ ∀ x ∈ c, 0 ≤ x ∧ x ≤ 255
theorem next_some {c : List Int} {a s : Int} (h : Src c a s) (n : Int) (hn : n ≤ 1000000000000) : ∃ v a' s', spec_l01Next.f c a s n = some (v, a', s') ∧ Src c a' s' ∧ 0 ≤ v ∧ (v < n ∨ v = 0) := by
  have ha := h.1
  have hs := h.2.1
  unfold spec_l01Next.f
  by_cases c1 : n ≤ 1
  · rw [if_pos c1]
    exact ⟨0, a, s, rfl, h, by omega, .inr rfl⟩
  · rw [if_neg c1]
    have w1 : wrap64 (wrap64 (s * 48271) + 29) = s * 48271 + 29 := by rw [w64 (n := s * 48271) (by omega), w64 (by omega)]
    obtain ⟨e, he⟩ : ∃ e, Int.tmod (s * 48271 + 29) 2147483647 = e := ⟨_, rfl⟩
    have e0 : 0 ≤ e := he ▸ Int.tmod_nonneg _ (by omega)
    have e1 : e < 2147483647 := he ▸ Int.tmod_lt_of_pos _ (by omega)
    obtain ⟨q, hq⟩ : ∃ q, Int.tdiv e 31 = q := ⟨_, rfl⟩
    have q0 : 0 ≤ q ∧ q ≤ e := by
      rw [← hq, Int.tdiv_eq_ediv_of_nonneg e0]
      omega
    have src : ∀ a' : Int, 0 ≤ a' → a' ≤ (c.length : Int) → Src c a' e := fun a' h0 h1 => ⟨⟨h0, h1, ha.2.2⟩, ⟨e0, e1⟩, h.2.2⟩
    have md : ∀ x, 0 ≤ x → 0 ≤ Int.tmod x n ∧ Int.tmod x n < n := fun x hx => ⟨Int.tmod_nonneg _ hx, Int.tmod_lt_of_pos _ (by omega)⟩
    by_cases c2 : a < c.length
    · have hr := h.2.2 (rd c a) (rd_mem ha.1 c2)
      simp only [w1, he, hq, w64 (n := q) (by omega), if_pos c2, if_pos ha.1, w64 (n := a + 1) (by omega), w64 (n := a + 1 - 1) (by omega), show a + 1 - 1 = a by omega, w64 (n := a) (by omega), w64 (n := rd c a) (by omega), w64 (n := q + rd c a) (by omega), if_neg (show ¬ n = 0 by omega)]
      have m1 := md (rd c a) hr.1
      have m2 := md (q + rd c a) (by omega)
      by_cases c3 : n ≤ 256
      · by_cases c4 : Int.tmod (a + 1) 2 = 0
        · simp only [if_pos c3, if_pos c4]
          exact ⟨_, a + 1, e, rfl, src (a + 1) (by omega) (by omega), m1.1, .inl m1.2⟩
        · simp only [if_pos c3, if_neg c4]
          exact ⟨_, a + 1, e, rfl, src (a + 1) (by omega) (by omega), m2.1, .inl m2.2⟩
      · simp only [if_neg c3]
        exact ⟨_, a + 1, e, rfl, src (a + 1) (by omega) (by omega), m2.1, .inl m2.2⟩
    · have m3 := md q q0.1
      simp only [w1, he, hq, w64 (n := q) (by omega), if_neg c2, if_neg (show ¬ n = 0 by omega)]
      exact ⟨_, a, e, rfl, src a ha.1 ha.2.1, m3.1, .inl m3.2⟩
theorem pick_some {c : List Int} {a s : Int} (h : Src c a s) (l : List Int) (h1 : 1 ≤ l.length) (h2 : l.length ≤ 1000) : ∃ v a' s', spec_l01Pick.f c a s l = some (v, a', s') ∧ Src c a' s' ∧ v ∈ l := by
  obtain ⟨v, a', s', e, hs, h0, hv⟩ := next_some h l.length (by omega)
  refine ⟨rd l v, a', s', ?_, hs, rd_mem h0 (by omega)⟩
  unfold spec_l01Pick.f
  rw [e]
  simp only [Option.bind_some]
  rw [if_pos h0, if_pos (by omega)]
theorem from_l0 (c : List Int) (hc : c.length ≤ 4096) (hb : ∀ x ∈ c, 0 ≤ x ∧ x ≤ 255) : ∀ (d : Nat) (i s : Int), 0 ≤ i → i + d = c.length → 0 ≤ s → s < 2147483647 → ∃ s', Ev (fun k => spec_l01From.l0 k c i c 0 s) (c, 0, s') ∧ Src c 0 s'
  | 0, i, s, h0, hd, s0, s1 => by
    refine ⟨s, Ev_shift ?_, ⟨by omega, by omega, hc⟩, ⟨s0, s1⟩, hb⟩
    simp only [spec_l01From.l0, if_neg (show ¬ i < (c.length : Int) by omega)]
    exact Ev.now _
  | d + 1, i, s, h0, hd, s0, s1 => by
    have hi : i < (c.length : Int) := by omega
    have hr := hb (rd c i) (rd_mem h0 hi)
    by_cases c2 : i < 64
    · obtain ⟨s', e, hs⟩ := from_l0 c hc hb d (i + 1) (Int.tmod (s * 83 + rd c i) 2147483647) (by omega) (by omega) (Int.tmod_nonneg _ (by omega)) (Int.tmod_lt_of_pos _ (by omega))
      refine ⟨s', Ev_shift ?_, hs⟩
      simp only [spec_l01From.l0, if_pos hi, if_pos c2, if_pos h0, w64 (n := i + 1) (by omega), w64 (n := s * 83) (by omega), w64 (n := rd c i) (by omega), w64 (n := s * 83 + rd c i) (by omega)]
      exact e
    · refine ⟨s, Ev_shift ?_, ⟨by omega, by omega, hc⟩, ⟨s0, s1⟩, hb⟩
      simp only [spec_l01From.l0, if_pos hi, if_neg c2]
      exact Ev.now _
theorem from_ev (c : List Int) (hc : c.length ≤ 4096) (hb : ∀ x ∈ c, 0 ≤ x ∧ x ≤ 255) : ∃ s, Ev (fun k => spec_l01From.f k c) (c, 0, s) ∧ Src c 0 s := by
  unfold spec_l01From.f
  exact from_l0 c hc hb c.length 0 61043 (by omega) (by omega) (by omega) (by omega)
theorem u8_rng {l : List Int} (h : ∀ x ∈ l, (Lit.int .u8 x).wf = true) : ∀ x ∈ l, 0 ≤ x ∧ x ≤ 255 := by
  intro x hx
  have := h x hx
  simp only [Lit.wf, Bool.and_eq_true, decide_eq_true_eq] at this
  have h1 : IntKind.min .u8 = 0 := by decide
  have h2 : IntKind.max .u8 = 255 := by decide
  rw [h1, h2] at this
  exact this
theorem likeInts_l0 (l : List Int) (hl : l.length ≤ 10000000) : ∀ (d : Nat) (i : Int), 0 ≤ i → i + d = l.length → Ev (fun k => laws_likeInts.l0 k l l i) true
  | 0, i, h0, hd => by
    refine Ev_shift ?_
    simp only [laws_likeInts.l0, if_neg (show ¬ i < (l.length : Int) by omega)]
    exact Ev.now _
  | d + 1, i, h0, hd => by
    refine Ev_shift ?_
    simp only [laws_likeInts.l0, if_pos (show i < (l.length : Int) by omega), if_pos h0, if_true, w64 (n := i + 1) (by omega)]
    exact likeInts_l0 l hl d (i + 1) (by omega) (by omega)
theorem likeInts_self (l : List Int) (hl : l.length ≤ 10000000) : Ev (fun k => laws_likeInts.f k l l) true := by
  unfold laws_likeInts.f
  simp only [if_true]
  exact likeInts_l0 l hl l.length 0 (by omega) (by omega)
theorem allWithin_l0 (l : List Int) (hn : l.length ≤ 140737488351232) (a b : Int) : ∀ (s : List Int) (i : Int), 0 ≤ i → l.drop i.toNat = s → Ev (fun k => impl_allWithin.l0 k a b l l.length i) (decide (∀ x ∈ s, a ≤ x ∧ x ≤ b))
  | [], i, h0, h => by
    refine Ev_shift ?_
    simp only [impl_allWithin.l0, if_neg (drop_nil h0 h)]
    exact Ev_some (by simp)
  | c :: s, i, h0, h => by
    refine Ev_shift ?_
    obtain ⟨h1, h2, h3⟩ := drop_cons 0 h0 h
    have h2' : rd l i = c := h2
    simp only [impl_allWithin.l0, if_pos h1, if_pos h0, h2', within_eq, Option.bind_some, decide_eq_true_eq, w64 (n := i + 1) (by omega)]
    by_cases hc : a ≤ c ∧ c ≤ b
    · simp only [if_pos hc]
      refine Ev_eq (allWithin_l0 l hn a b s (i + 1) (by omega) h3) ?_
      exact decide_eq_decide.2 ⟨fun h x hx => by
        rcases List.mem_cons.1 hx with rfl | hx
        · exact hc
        · exact h x hx, fun h x hx => h x (by simp [hx])⟩
    · simp only [if_neg hc]
      exact Ev_some (decide_eq_false (fun h => hc (h c (by simp)))).symm
theorem allWithin_ev (l : List Int) (hn : l.length ≤ 140737488351232) (a b : Int) : Ev (fun k => impl_allWithin.f k l a b) (decide (∀ x ∈ l, a ≤ x ∧ x ≤ b)) := by
  unfold impl_allWithin.f
  exact allWithin_l0 l hn a b l 0 (by omega) rfl
/-- Circuits. -/
def PCirc (x : Int) (l : List Int) : Prop := (0 ≤ x ∧ x ≤ 100000) ∧ (1 ≤ l.length ∧ l.length ≤ 10) ∧ ∀ y ∈ l, 1 ≤ y ∧ y ≤ 100000
theorem spec_IsCircuit_l0 (x : Int) (l : List Int) (hn : l.length ≤ 140737488351232) : ∀ (s : List Int) (i : Int), 0 ≤ i → l.drop i.toNat = s → Ev (fun k => spec_IsCircuit.l0 k i x l) (tt ((∀ y ∈ s, 1 ≤ y ∧ y ≤ 100000) ∧ (0 ≤ x ∧ x ≤ 100000) ∧ (1 ≤ l.length ∧ l.length ≤ 10)))
  | [], i, h0, h => by
    refine Ev_shift ?_
    simp only [spec_IsCircuit.l0, if_neg (drop_nil h0 h), l01In_eq, Option.bind_some, decide_eq_true_eq]
    by_cases c : 0 ≤ x ∧ x ≤ 100000
    · simp only [if_pos c]
      refine Ev_some ?_
      rw [← tt_dec]
      exact tt_iff ⟨fun h => ⟨fun y hy => by simp at hy, c, by omega, by omega⟩, fun h => by have := h.2.2; omega⟩
    · simp only [if_neg c]
      exact Ev_some (tt_neg (fun h => c h.2.1)).symm
  | a :: s, i, h0, h => by
    refine Ev_shift ?_
    obtain ⟨h1, h2, h3⟩ := drop_cons 0 h0 h
    have h2' : rd l i = a := h2
    simp only [spec_IsCircuit.l0, if_pos h1, if_pos h0, h2', l01In_eq, Option.bind_some, decide_eq_true_eq, w64 (n := i + 1) (by omega)]
    by_cases c : 1 ≤ a ∧ a ≤ 100000
    · simp only [if_pos c]
      refine Ev_eq (spec_IsCircuit_l0 x l hn s (i + 1) (by omega) h3) (tt_iff ⟨fun h => ⟨fun y hy => ?_, h.2⟩, fun h => ⟨fun y hy => h.1 y (by simp [hy]), h.2⟩⟩)
      rcases List.mem_cons.1 hy with rfl | hy
      · exact c
      · exact h.1 y hy
    · simp only [if_neg c]
      exact Ev_some (tt_neg (fun h => c (h.1 a (by simp)))).symm
theorem spec_IsCircuit_ev (x : Int) (l : List Int) (hn : l.length ≤ 140737488351232) : Ev (fun k => spec_IsCircuit.f k x l) (tt (PCirc x l)) := by
  unfold spec_IsCircuit.f
  exact Ev_eq (spec_IsCircuit_l0 x l hn l 0 (by omega) rfl) (tt_iff ⟨fun h => ⟨h.2.1, h.2.2, h.1⟩, fun h => ⟨h.2.2, h.1, h.2.1⟩⟩)
theorem impl_IsCircuit_ev (x : Int) (l : List Int) (hn : l.length ≤ 140737488351232) : Ev (fun k => impl_IsCircuit.f k x l) (tt (PCirc x l)) := by
  unfold impl_IsCircuit.f
  simp only [impl_isLead.f, within_eq, Option.bind_some, decide_eq_true_eq]
  by_cases c : 0 ≤ x ∧ x ≤ 100000
  · simp only [if_pos c]
    by_cases c1 : (l.length : Int) ≥ 1
    · by_cases c2 : (l.length : Int) ≤ 10
      · simp only [if_pos c1, if_pos c2]
        refine Ev.bind (allWithin_ev l hn 1 100000) (Ev_some ?_)
        rw [← tt_dec]
        exact tt_iff ⟨fun h => ⟨c, ⟨by omega, by omega⟩, h⟩, fun h => h.2.2⟩
      · simp only [if_pos c1, if_neg c2]
        exact Ev_some (tt_neg (fun h => by have := h.2.1; omega)).symm
    · simp only [if_neg c1]
      exact Ev_some (tt_neg (fun h => by have := h.2.1; omega)).symm
  · simp only [if_neg c]
    exact Ev_some (tt_neg (fun h => c h.1)).symm
def sumI : List Int → Int
  | [] => 0
  | a :: s => a + sumI s
theorem sumI_rng : ∀ (s : List Int), (∀ y ∈ s, 1 ≤ y ∧ y ≤ 100000) → (s.length : Int) ≤ sumI s ∧ sumI s ≤ 100000 * s.length
  | [], _ => by simp [sumI]
  | a :: s, h => by
    have := sumI_rng s (fun y hy => h y (by simp [hy]))
    have := h a (by simp)
    simp only [sumI, List.length_cons]
    omega
theorem circ_rng {x : Int} {l : List Int} (h : PCirc x l) : 1 ≤ x + sumI l ∧ x + sumI l ≤ 1100000 := by
  have := sumI_rng l h.2.2
  have := h.1
  have := h.2.1
  omega
theorem spec_sum_l0 (l : List Int) (hl : l.length ≤ 10) : ∀ (s : List Int) (i a : Int), 0 ≤ i → l.drop i.toNat = s → (∀ y ∈ s, 1 ≤ y ∧ y ≤ 100000) → 0 ≤ a → a + 100000 * s.length ≤ 1000000000 → Ev (fun k => spec_l01Sum.l0 k l a i) (a + sumI s)
  | [], i, a, h0, h, hs, ha, hb => by
    refine Ev_shift ?_
    simp only [spec_l01Sum.l0, if_neg (drop_nil h0 h)]
    exact Ev_some (by simp [sumI])
  | c :: s, i, a, h0, h, hs, ha, hb => by
    refine Ev_shift ?_
    obtain ⟨h1, h2, h3⟩ := drop_cons 0 h0 h
    have h2' : rd l i = c := h2
    have hc := hs c (by simp)
    simp only [List.length_cons] at hb
    simp only [spec_l01Sum.l0, if_pos h1, if_pos h0, h2', w64 (n := i + 1) (by omega), w64 (n := a + c) (by omega)]
    refine Ev_eq (spec_sum_l0 l hl s (i + 1) (a + c) (by omega) h3 (fun y hy => hs y (by simp [hy])) (by omega) (by omega)) ?_
    simp only [sumI]
    omega
theorem spec_exp_ev {x : Int} {l : List Int} (h : PCirc x l) : Ev (fun k => spec_l14Expected.f k x l) (x + sumI l) := by
  have := circ_rng h
  have hl := h.2.1
  unfold spec_l14Expected.f spec_l01Sum.f
  refine Ev.bind (spec_sum_l0 l hl.2 l 0 0 (by omega) rfl h.2.2 (by omega) (by omega)) ?_
  rw [Int.zero_add, w64 (by omega)]
  exact Ev.now _
theorem impl_sum_l0 (l : List Int) (hl : l.length ≤ 10) : ∀ (s : List Int) (i a : Int), 0 ≤ i → l.drop i.toNat = s → (∀ y ∈ s, 1 ≤ y ∧ y ≤ 100000) → 0 ≤ a → a + 100000 * s.length ≤ 1000000000 → Ev (fun k => impl_total.l0 k a l l.length i) (a + sumI s)
  | [], i, a, h0, h, hs, ha, hb => by
    refine Ev_shift ?_
    simp only [impl_total.l0, if_neg (drop_nil h0 h)]
    exact Ev_some (by simp [sumI])
  | c :: s, i, a, h0, h, hs, ha, hb => by
    refine Ev_shift ?_
    obtain ⟨h1, h2, h3⟩ := drop_cons 0 h0 h
    have h2' : rd l i = c := h2
    have hc := hs c (by simp)
    simp only [List.length_cons] at hb
    simp only [impl_total.l0, if_pos h1, if_pos h0, h2', w64 (n := i + 1) (by omega), w64 (n := a + c) (by omega)]
    refine Ev_eq (impl_sum_l0 l hl s (i + 1) (a + c) (by omega) h3 (fun y hy => hs y (by simp [hy])) (by omega) (by omega)) ?_
    simp only [sumI]
    omega
theorem impl_exp_ev {x : Int} {l : List Int} (h : PCirc x l) : Ev (fun k => impl_expectedOf.f k x l) (x + sumI l) := by
  have := circ_rng h
  have hl := h.2.1
  unfold impl_expectedOf.f impl_total.f
  refine Ev.bind (impl_sum_l0 l hl.2 l 0 0 (by omega) rfl h.2.2 (by omega) (by omega)) ?_
  rw [Int.zero_add, w64 (by omega)]
  exact Ev.now _
theorem spec_ceilM_eq {a : Int} (h : 0 ≤ a ∧ a ≤ 1000000000000) : spec_l01Ceil.f a 1000000 = some ((a + 999999) / 1000000) := by
  unfold spec_l01Ceil.f spec_l01Floor.f
  rw [w64 (n := -a) (by omega), if_neg (by omega), if_neg (by omega), Int.neg_tmod, Int.neg_tdiv, Int.tmod_eq_emod_of_nonneg h.1, Int.tdiv_eq_ediv_of_nonneg h.1]
  by_cases c : -(a % 1000000) < 0
  · rw [if_pos c, w64 (n := -(a / 1000000)) (by omega), w64 (n := -(a / 1000000) - 1) (by omega), Option.bind_some, w64 (by omega)]
    congr 1
    omega
  · rw [if_neg c, w64 (n := -(a / 1000000)) (by omega), Option.bind_some, w64 (by omega)]
    congr 1
    omega
theorem impl_ceilM_eq {a : Int} (h : 0 ≤ a ∧ a ≤ 1000000000000) : impl_ceilDiv.f a 1000000 = some ((a + 999999) / 1000000) := by
  unfold impl_ceilDiv.f
  rw [if_neg (by omega), w64 (n := a + 1000000) (by omega), w64 (n := a + 1000000 - 1) (by omega), Int.tdiv_eq_ediv_of_nonneg (by omega), w64 (by omega)]
  congr 1
  omega
/-- Enough current with m igniters. -/
def MiP (lead r v c m : Int) : Prop := c ≤ (1000000 * v) / (lead + m * r)
instance (lead r v c m : Int) : Decidable (MiP lead r v c m) := by unfold MiP; infer_instance
theorem mi_anti {lead r v c m m' : Int} (hl : 0 ≤ lead) (hr : 1 ≤ r) (hc : 0 ≤ c) (hm : 1 ≤ m) (hmm : m ≤ m') (h : MiP lead r v c m') : MiP lead r v c m := by
  unfold MiP at *
  have h1 : m * r ≤ m' * r := Int.mul_le_mul_of_nonneg_right hmm (by omega)
  have h0 : 1 * r ≤ m * r := Int.mul_le_mul_of_nonneg_right hm (by omega)
  rw [Int.le_ediv_iff_mul_le (by omega)] at *
  exact Int.le_trans (Int.mul_le_mul_of_nonneg_left (by omega) hc) h
theorem mi_step {lead r v m : Int} (hl : 0 ≤ lead ∧ lead ≤ 100000) (hr : 1 ≤ r ∧ r ≤ 100000) (hv : 0 ≤ v ∧ v ≤ 1000) (hm : 1 ≤ m ∧ m ≤ 10) :
    wrap64 (lead + wrap64 (m * r)) = lead + m * r ∧ lead + m * r ≠ 0 ∧ wrap64 (Int.tdiv (wrap64 (1000000 * v)) (lead + m * r)) = (1000000 * v) / (lead + m * r) := by
  have h1 : m * r ≤ 10 * r := Int.mul_le_mul_of_nonneg_right hm.2 (by omega)
  have h0 : 1 * r ≤ m * r := Int.mul_le_mul_of_nonneg_right hm.1 (by omega)
  rw [w64 (n := m * r) (by omega), w64 (n := lead + m * r) (by omega), w64 (n := 1000000 * v) (by omega), Int.tdiv_eq_ediv_of_nonneg (by omega)]
  refine ⟨rfl, by omega, w64 ⟨?_, ?_⟩⟩
  · have := Int.ediv_nonneg (show 0 ≤ 1000000 * v by omega) (show 0 ≤ lead + m * r by omega)
    omega
  · have := Int.ediv_le_self (lead + m * r) (show 0 ≤ 1000000 * v by omega)
    omega
theorem mi_spec {lead r v c : Int} (hl : 0 ≤ lead ∧ lead ≤ 100000) (hr : 1 ≤ r ∧ r ≤ 100000) (hv : 0 ≤ v ∧ v ≤ 1000) (d : Nat) : ∀ (k : Nat) (n : Int), 0 ≤ n → n + d = 10 → d < k → (∀ m, 1 ≤ m → m ≤ n → MiP lead r v c m) →
    ∃ N, 0 ≤ N ∧ N ≤ 10 ∧ spec_MostIgniters.l0 k lead r v c n = some (if N = 0 then (0, 4) else (N, 0)) ∧ (∀ m, 1 ≤ m → m ≤ N → MiP lead r v c m) ∧ (N < 10 → ¬ MiP lead r v c (N + 1)) := by
  induction d with
  | zero =>
    intro k n h0 hd hk hP
    obtain ⟨k, rfl⟩ : ∃ m, k = m + 1 := ⟨k - 1, by omega⟩
    refine ⟨n, h0, by omega, ?_, hP, fun h => by omega⟩
    simp only [spec_MostIgniters.l0]
    rw [if_neg (by omega)]
    split <;> rfl
  | succ d ih =>
    intro k n h0 hd hk hP
    obtain ⟨k, rfl⟩ : ∃ m, k = m + 1 := ⟨k - 1, by omega⟩
    obtain ⟨e1, e2, e3⟩ := mi_step hl hr hv (m := n + 1) (by omega)
    by_cases hp : MiP lead r v c (n + 1)
    · obtain ⟨N, a, b, e, f, g⟩ := ih k (n + 1) (by omega) (by omega) (by omega) (fun m h1 h2 => by
        by_cases hm : m = n + 1
        · rw [hm]; exact hp
        · exact hP m h1 (by omega))
      refine ⟨N, a, b, ?_, f, g⟩
      simp only [spec_MostIgniters.l0]
      rw [if_pos (by omega), w64 (n := n + 1) (by omega), e1, if_neg e2, e3, if_pos (show 1000000 * v / (lead + (n + 1) * r) ≥ c from hp)]
      exact e
    · refine ⟨n, h0, by omega, ?_, hP, fun _ => hp⟩
      simp only [spec_MostIgniters.l0]
      rw [if_pos (by omega), w64 (n := n + 1) (by omega), e1, if_neg e2, e3, if_neg (show ¬ 1000000 * v / (lead + (n + 1) * r) ≥ c from hp)]
      split <;> rfl
theorem mi_impl {lead r v c : Int} (hl : 0 ≤ lead ∧ lead ≤ 100000) (hr : 1 ≤ r ∧ r ≤ 100000) (hv : 0 ≤ v ∧ v ≤ 1000) (d : Nat) : ∀ (k : Nat) (n : Int), n = d → n ≤ 10 → d < k → (∀ m, n < m → m ≤ 10 → ¬ MiP lead r v c m) →
    ∃ N, 0 ≤ N ∧ N ≤ 10 ∧ impl_MostIgniters.l0 k lead r v c n = some (if N = 0 then (0, 4) else (N, 0)) ∧ (0 < N → MiP lead r v c N) ∧ (∀ m, N < m → m ≤ 10 → ¬ MiP lead r v c m) := by
  induction d with
  | zero =>
    intro k n h0 hd hk hP
    obtain ⟨k, rfl⟩ : ∃ m, k = m + 1 := ⟨k - 1, by omega⟩
    refine ⟨0, by omega, by omega, ?_, fun h => by omega, fun m h1 h2 => hP m (by omega) h2⟩
    simp only [impl_MostIgniters.l0]
    rw [if_neg (by omega)]
    rfl
  | succ d ih =>
    intro k n h0 hd hk hP
    obtain ⟨k, rfl⟩ : ∃ m, k = m + 1 := ⟨k - 1, by omega⟩
    obtain ⟨e1, e2, e3⟩ := mi_step hl hr hv (m := n) (by omega)
    by_cases hp : MiP lead r v c n
    · refine ⟨n, by omega, by omega, ?_, fun _ => hp, fun m h1 h2 => hP m (by omega) h2⟩
      simp only [impl_MostIgniters.l0]
      rw [if_pos (by omega), e1, if_neg e2, e3, if_pos (show 1000000 * v / (lead + n * r) ≥ c from hp), if_neg (by omega)]
    · obtain ⟨N, a, b, e, f, g⟩ := ih k (n - 1) (by omega) (by omega) (by omega) (fun m h1 h2 => by
        by_cases hm : m = n
        · rw [hm]; exact hp
        · exact hP m (by omega) h2)
      refine ⟨N, a, b, ?_, f, g⟩
      simp only [impl_MostIgniters.l0]
      rw [if_pos (by omega), e1, if_neg e2, e3, if_neg (show ¬ 1000000 * v / (lead + n * r) ≥ c from hp), w64 (n := n - 1) (by omega)]
      exact e
theorem spec_MostIgniters_f (k : Nat) (lead r v c : Int) : spec_MostIgniters.f (k + 1) lead r v c = if 0 ≤ lead ∧ lead ≤ 100000 ∧ 1 ≤ r ∧ r ≤ 100000 ∧ 0 ≤ v ∧ v ≤ 1000 ∧ 0 ≤ c ∧ c ≤ 100000 then spec_MostIgniters.l0 k lead r v c 0 else some (0, 2) := by
  unfold spec_MostIgniters.f
  simp only [l01In_eq, Option.bind_some, decide_eq_true_eq, spec_MostIgniters.j0]
  by_cases h1 : 0 ≤ lead ∧ lead ≤ 100000
  · by_cases h2 : 1 ≤ r ∧ r ≤ 100000
    · by_cases h3 : 0 ≤ v ∧ v ≤ 1000
      · by_cases h4 : 0 ≤ c ∧ c ≤ 100000 <;> simp [h1, h2, h3, h4]
      · rw [if_pos h1, if_pos h2, if_neg h3, if_neg (c := _ ∧ _) (by omega)]; rfl
    · rw [if_pos h1, if_neg h2, if_neg (c := _ ∧ _) (by omega)]; rfl
  · rw [if_neg h1, if_neg (c := _ ∧ _) (by omega)]; rfl
theorem impl_MostIgniters_f (k : Nat) (lead r v c : Int) : impl_MostIgniters.f (k + 1) lead r v c = if 0 ≤ lead ∧ lead ≤ 100000 ∧ 1 ≤ r ∧ r ≤ 100000 ∧ 0 ≤ v ∧ v ≤ 1000 ∧ 0 ≤ c ∧ c ≤ 100000 then impl_MostIgniters.l0 k lead r v c 10 else some (0, 2) := by
  unfold impl_MostIgniters.f impl_isLead.f impl_isIgniter.f impl_areVolts.f impl_isCurrent.f
  simp only [within_eq, Option.bind_some, decide_eq_true_eq, impl_MostIgniters.j0]
  by_cases h1 : 0 ≤ lead ∧ lead ≤ 100000
  · by_cases h2 : 1 ≤ r ∧ r ≤ 100000
    · by_cases h3 : 0 ≤ v ∧ v ≤ 1000
      · by_cases h4 : 0 ≤ c ∧ c ≤ 100000 <;> simp [h1, h2, h3, h4]
      · rw [if_pos h1, if_pos h2, if_neg h3, if_neg (c := _ ∧ _) (by omega)]; rfl
    · rw [if_pos h1, if_neg h2, if_neg (c := _ ∧ _) (by omega)]; rfl
  · rw [if_neg h1, if_neg (c := _ ∧ _) (by omega)]; rfl
theorem agree_MostIgniters (lead r v c : Int) : ∃ q, ∀ k, 12 ≤ k → spec_MostIgniters.f k lead r v c = some q ∧ impl_MostIgniters.f k lead r v c = some q := by
  by_cases h : 0 ≤ lead ∧ lead ≤ 100000 ∧ 1 ≤ r ∧ r ≤ 100000 ∧ 0 ≤ v ∧ v ≤ 1000 ∧ 0 ≤ c ∧ c ≤ 100000
  · obtain ⟨N, -, -, -, -, -⟩ := mi_spec (c := c) (lead := lead) (r := r) (v := v) (by omega) (by omega) (by omega) 10 11 0 (by omega) (by omega) (by omega) (fun m h1 h2 => by omega)
    have hs : ∀ k, 11 ≤ k → ∃ N, 0 ≤ N ∧ N ≤ 10 ∧ spec_MostIgniters.l0 k lead r v c 0 = some (if N = 0 then (0, 4) else (N, 0)) ∧ (∀ m, 1 ≤ m → m ≤ N → MiP lead r v c m) ∧ (N < 10 → ¬ MiP lead r v c (N + 1)) :=
      fun k hk => mi_spec (by omega) (by omega) (by omega) 10 k 0 (by omega) (by omega) (by omega) (fun m h1 h2 => by omega)
    have hi : ∀ k, 11 ≤ k → ∃ N, 0 ≤ N ∧ N ≤ 10 ∧ impl_MostIgniters.l0 k lead r v c 10 = some (if N = 0 then (0, 4) else (N, 0)) ∧ (0 < N → MiP lead r v c N) ∧ (∀ m, N < m → m ≤ 10 → ¬ MiP lead r v c m) :=
      fun k hk => mi_impl (by omega) (by omega) (by omega) 10 k 10 (by omega) (by omega) (by omega) (fun m h1 h2 => by omega)
    have same : ∀ N M : Int, 0 ≤ N → N ≤ 10 → (∀ m, 1 ≤ m → m ≤ N → MiP lead r v c m) → (N < 10 → ¬ MiP lead r v c (N + 1)) → 0 ≤ M → M ≤ 10 → (0 < M → MiP lead r v c M) → (∀ m, M < m → m ≤ 10 → ¬ MiP lead r v c m) → N = M := by
      intro N M h0 h1 h2 h3 g0 g1 g2 g3
      rcases Int.lt_trichotomy N M with hlt | heq | hgt
      · exact absurd (mi_anti (by omega) (by omega) (by omega) (by omega) (show N + 1 ≤ M by omega) (g2 (by omega))) (h3 (by omega))
      · exact heq
      · exact absurd (h2 N (by omega) (by omega)) (g3 N (by omega) h1)
    obtain ⟨M, m0, m1, -, m3, m4⟩ := hi 11 (by omega)
    refine ⟨if M = 0 then (0, 4) else (M, 0), fun k hk => ?_⟩
    obtain ⟨k, rfl⟩ : ∃ m, k = m + 1 := ⟨k - 1, by omega⟩
    rw [spec_MostIgniters_f, impl_MostIgniters_f, if_pos h, if_pos h]
    obtain ⟨N, n0, n1, n2, n3, n4⟩ := hs k (by omega)
    obtain ⟨M', q0, q1, q2, q3, q4⟩ := hi k (by omega)
    have e1 := same N M n0 n1 n3 n4 m0 m1 m3 m4
    have e2 := same N M' n0 n1 n3 n4 q0 q1 q3 q4
    rw [n2, q2, ← e2, ← e1]
    exact ⟨rfl, rfl⟩
  · refine ⟨(0, 2), fun k hk => ?_⟩
    obtain ⟨k, rfl⟩ : ∃ m, k = m + 1 := ⟨k - 1, by omega⟩
    rw [spec_MostIgniters_f, impl_MostIgniters_f, if_neg h, if_neg h]
    exact ⟨rfl, rfl⟩
theorem and24 (x : Int) : 0 ≤ Go.bits .and .u64 x 16777215 ∧ Go.bits .and .u64 x 16777215 ≤ 16777215 := by
  unfold Go.bits
  have h : ((BitVec.ofInt 64 x) &&& (BitVec.ofInt 64 16777215)).toNat ≤ 16777215 := by
    rw [BitVec.toNat_and]
    exact Nat.le_trans Nat.and_le_right (by decide)
  show 0 ≤ IntKind.u64.wrap (((BitVec.ofInt 64 x) &&& (BitVec.ofInt 64 16777215)).toNat : Int) ∧ IntKind.u64.wrap (((BitVec.ofInt 64 x) &&& (BitVec.ofInt 64 16777215)).toNat : Int) ≤ 16777215
  generalize ((BitVec.ofInt 64 x) &&& (BitVec.ofInt 64 16777215)).toNat = n at h ⊢
  have e : IntKind.u64.wrap (n : Int) = (n : Int) := by
    unfold IntKind.wrap
    simp [IntKind.bits, IntKind.signed]
    omega
  rw [e]
  omega
theorem roll_l0 (c d : List Int) (q : Int) (hc : c.length ≤ 4096) : ∀ (e : Nat) (i s : Int), 0 ≤ i → i + e = c.length → ∃ s', Ev (fun k => laws_roll.l0 k c i d q s) (d, q, s')
  | 0, i, s, h0, he => by
    refine ⟨s, Ev_shift ?_⟩
    simp only [laws_roll.l0, if_neg (show ¬ i < (c.length : Int) by omega)]
    exact Ev.now _
  | e + 1, i, s, h0, he => by
    obtain ⟨s', h⟩ := roll_l0 c d q hc e (i + 1) _ (by omega) (by omega)
    refine ⟨s', Ev_shift ?_⟩
    simp only [laws_roll.l0, if_pos (show i < (c.length : Int) by omega), if_pos h0, w64 (n := i + 1) (by omega)]
    exact h
theorem roll_ev (c : List Int) (hc : c.length ≤ 4096) (x : Int) : ∃ s, Ev (fun k => laws_roll.f k c x) (c, 0, s) := by
  unfold laws_roll.f
  exact roll_l0 c c 0 hc c.length 0 _ (by omega) (by omega)
theorem dice_some (c : List Int) (hc : c.length ≤ 4096) (hb : ∀ x ∈ c, 0 ≤ x ∧ x ≤ 255) (s : Int) {n : Int} (hn : 1 ≤ n ∧ n ≤ 1000000) : ∃ v a' s', laws_dice_below.f c 0 s n = some (v, a', s') ∧ 0 ≤ v ∧ v < n := by
  unfold laws_dice_below.f
  have hx := and24 ((IntKind.u64.wrap ((IntKind.u64.wrap (s * 6364136223846793005)) + 1442695040888963407)) / 8589934592)
  generalize Go.bits .and .u64 ((IntKind.u64.wrap ((IntKind.u64.wrap (s * 6364136223846793005)) + 1442695040888963407)) / 8589934592) 16777215 = x at hx ⊢
  by_cases h : 0 < (c.length : Int)
  · have hr := hb (rd c 0) (rd_mem (Int.le_refl _) h)
    simp only [if_pos h, if_pos (Int.le_refl (0 : Int)), if_neg (show ¬ n = 0 by omega), w64 (n := x) (by omega), w64 (n := rd c 0) (by omega), w64 (n := x + rd c 0) (by omega)]
    exact ⟨_, _, _, rfl, Int.tmod_nonneg _ (by omega), Int.tmod_lt_of_pos _ (by omega)⟩
  · simp only [if_neg h, if_neg (show ¬ n = 0 by omega), w64 (n := x) (by omega)]
    exact ⟨_, _, _, rfl, Int.tmod_nonneg _ (by omega), Int.tmod_lt_of_pos _ (by omega)⟩
theorem good14_l0 (c : List Int) (x : Int) : ∀ (d : Nat) (out : List Int) (a s : Int), Src c a s → out.length + d ≤ 4 → ∃ l a' s', Ev (fun k => spec_l14Good.l0 k d c a s x out) (x, l, a', s') ∧ Src c a' s' ∧ l.length ≤ 4
  | 0, out, a, s, h, hd => by
    refine ⟨out, a, s, Ev_shift ?_, h, by omega⟩
    simp only [spec_l14Good.l0, if_neg (show ¬ ((0 : Nat) : Int) > 0 by decide)]
    exact Ev.now _
  | d + 1, out, a, s, h, hd => by
    obtain ⟨v, a1, s1, e1, h1, _, _⟩ := next_some h 1500 (by omega)
    obtain ⟨l, a', s', e, hs, hl⟩ := good14_l0 c x d (out ++ [wrap64 (1000 + v)]) a1 s1 h1 (by simp; omega)
    refine ⟨l, a', s', Ev_shift ?_, hs, hl⟩
    simp only [spec_l14Good.l0, if_pos (show ((d + 1 : Nat) : Int) > 0 by omega), e1, Option.bind_some, if_pos (show out.length < 17592186044416 by omega), show ((d + 1 : Nat) : Int) - 1 = (d : Int) by omega, w64 (n := (d : Int)) (by omega)]
    exact e
theorem good14_ev {c : List Int} {a s : Int} (h : Src c a s) : ∃ x l a' s', Ev (fun k => spec_l14Good.f k c a s) (x, l, a', s') ∧ Src c a' s' ∧ l.length ≤ 4 := by
  obtain ⟨v1, a1, s1, e1, h1, _, _⟩ := next_some h 2000 (by omega)
  obtain ⟨v2, a2, s2, e2, h2, v0, v3⟩ := next_some h1 4 (by omega)
  obtain ⟨l, a', s', e, hs, hl⟩ := good14_l0 c v1 (1 + v2).toNat [] a2 s2 h2 (by simp; omega)
  rw [show (((1 + v2).toNat : Nat) : Int) = 1 + v2 by omega] at e
  refine ⟨v1, l, a', s', ?_, hs, hl⟩
  unfold spec_l14Good.f
  simp only [e1, e2, Option.bind_some, w64 (n := 1 + v2) (by omega)]
  exact e
theorem fill14_l0 (c : List Int) (x : Int) : ∀ (d : Nat) (out : List Int) (a s : Int), Src c a s → 12 ≤ out.length + d → out.length ≤ 12 → ∃ l a' s', Ev (fun k => spec_l14Draw.l0 k c a s x out) (x, l, a', s') ∧ Src c a' s' ∧ l.length ≤ 30
  | d, out, a, s, h, hd, ho => by
    obtain ⟨v, a1, s1, e1, h1, v0, v1⟩ := next_some h 2 (by omega)
    by_cases c1 : (out.length : Int) < 10 + v
    · cases d with
      | zero => omega
      | succ d =>
        obtain ⟨l, a', s', e, hs, hl⟩ := fill14_l0 c x d (out ++ [1700]) a1 s1 h1 (by simp; omega) (by simp; omega)
        refine ⟨l, a', s', Ev_shift ?_, hs, hl⟩
        simp only [spec_l14Draw.l0, e1, Option.bind_some, w64 (n := 10 + v) (by omega), if_pos c1, if_pos (show out.length < 17592186044416 by omega)]
        exact e
    · refine ⟨out, a1, s1, Ev_shift ?_, h1, by omega⟩
      simp only [spec_l14Draw.l0, e1, Option.bind_some, w64 (n := 10 + v) (by omega), if_neg c1]
      exact Ev.now _
theorem draw14_ev {c : List Int} {a s : Int} (h : Src c a s) : ∃ x l a' s', Ev (fun k => spec_l14Draw.f k c a s) (x, l, a', s') ∧ Src c a' s' ∧ l.length ≤ 30 := by
  obtain ⟨x, l, a1, s1, e1, h1, hl⟩ := good14_ev h
  obtain ⟨u, a2, s2, e2, h2, _, _⟩ := next_some h1 30 (by omega)
  by_cases c0 : u = 0
  · obtain ⟨p, a4, s4, e4, h4, _⟩ := pick_some h2 [(-1), 0, 100000, 100001] (by simp) (by simp)
    refine ⟨p, l, a4, s4, ?_, h4, by omega⟩
    unfold spec_l14Draw.f
    refine Ev.bind e1 ?_
    simp only [e2, Option.bind_some, if_pos c0, e4]
    exact Ev.now _
  · by_cases c1 : u = 1
    · obtain ⟨p, a4, s4, e4, h4, _⟩ := pick_some h2 [0, 1, 100000, 100001] (by simp) (by simp)
      refine ⟨x, l ++ [p], a4, s4, ?_, h4, by simp; omega⟩
      unfold spec_l14Draw.f
      refine Ev.bind e1 ?_
      simp only [e2, Option.bind_some, if_neg c0, if_pos c1, e4, if_pos (show l.length < 17592186044416 by omega)]
      exact Ev.now _
    · by_cases c2 : u = 2
      · obtain ⟨l', a', s', e, hs, hl'⟩ := fill14_l0 c x 12 l a2 s2 h2 (by omega) (by omega)
        refine ⟨x, l', a', s', ?_, hs, hl'⟩
        unfold spec_l14Draw.f
        refine Ev.bind e1 ?_
        simp only [e2, Option.bind_some, if_neg c0, if_neg c1, if_pos c2]
        exact e
      · by_cases c3 : u = 3
        · refine ⟨x, [], a2, s2, ?_, h2, by simp⟩
          unfold spec_l14Draw.f
          refine Ev.bind e1 ?_
          simp only [e2, Option.bind_some, if_neg c0, if_neg c1, if_neg c2, if_pos c3]
          exact Ev.now _
        · refine ⟨x, l, a2, s2, ?_, h2, by omega⟩
          unfold spec_l14Draw.f
          refine Ev.bind e1 ?_
          simp only [e2, Option.bind_some, if_neg c0, if_neg c1, if_neg c2, if_neg c3]
          exact Ev.now _
theorem drawVolts_ev (c : List Int) (hc : c.length ≤ 4096) (hb : ∀ x ∈ c, 0 ≤ x ∧ x ≤ 255) : ∃ (x : Int) (l : List Int) (p : Int), Ev (fun k => spec_DrawVoltsFor.f k c) (x, l, p) ∧ l.length ≤ 30 := by
  obtain ⟨s, e0, h0⟩ := from_ev c hc hb
  obtain ⟨x, l, a1, s1, e1, h1, hl⟩ := draw14_ev h0
  obtain ⟨v, a2, s2, e2, h2, _, _⟩ := next_some h1 1500 (by omega)
  obtain ⟨u, a3, s3, e3, h3, _, _⟩ := next_some h2 5000 (by omega)
  obtain ⟨p, a4, s4, e4, h4, _⟩ := pick_some h3 [wrap64 (500 + v), u, 0, 100000, 100001, (-1)] (by simp) (by simp)
  refine ⟨x, l, p, ?_, hl⟩
  unfold spec_DrawVoltsFor.f
  refine Ev.bind e0 (Ev.bind e1 ?_)
  simp only [e2, e3, e4, Option.bind_some]
  exact Ev.now _
theorem drawCur_ev (c : List Int) (hc : c.length ≤ 4096) (hb : ∀ x ∈ c, 0 ≤ x ∧ x ≤ 255) : ∃ (x : Int) (l : List Int) (p : Int), Ev (fun k => spec_DrawCurrentOf.f k c) (x, l, p) ∧ l.length ≤ 30 := by
  obtain ⟨s, e0, h0⟩ := from_ev c hc hb
  obtain ⟨x, l, a1, s1, e1, h1, hl⟩ := draw14_ev h0
  obtain ⟨v, a2, s2, e2, h2, _, _⟩ := next_some h1 60 (by omega)
  obtain ⟨p, a4, s4, e4, h4, _⟩ := pick_some h2 [24, v, 1000, 1001, 0, (-1)] (by simp) (by simp)
  refine ⟨x, l, p, ?_, hl⟩
  unfold spec_DrawCurrentOf.f
  refine Ev.bind e0 (Ev.bind e1 ?_)
  simp only [e2, e4, Option.bind_some]
  exact Ev.now _
theorem drawIgn_ev (c : List Int) (hc : c.length ≤ 4096) (hb : ∀ x ∈ c, 0 ≤ x ∧ x ≤ 255) : ∃ (x : Int) (l : List Int) (p : Int), Ev (fun k => spec_DrawAddIgniter.f k c) (x, l, p) ∧ l.length ≤ 30 := by
  obtain ⟨s, e0, h0⟩ := from_ev c hc hb
  obtain ⟨x, l, a1, s1, e1, h1, hl⟩ := draw14_ev h0
  obtain ⟨v, a2, s2, e2, h2, _, _⟩ := next_some h1 900 (by omega)
  obtain ⟨p, a4, s4, e4, h4, _⟩ := pick_some h2 [1500, 1, 100000, 100001, 0, wrap64 (1000 + v)] (by simp) (by simp)
  refine ⟨x, l, p, ?_, hl⟩
  unfold spec_DrawAddIgniter.f
  refine Ev.bind e0 (Ev.bind e1 ?_)
  simp only [e2, e4, Option.bind_some]
  exact Ev.now _
theorem drawMost_ev (c : List Int) (hc : c.length ≤ 4096) (hb : ∀ x ∈ c, 0 ≤ x ∧ x ≤ 255) : ∃ (x r u w : Int), Ev (fun k => spec_DrawMostIgniters.f k c) (x, r, u, w) := by
  obtain ⟨s, e0, h0⟩ := from_ev c hc hb
  obtain ⟨v1, a1, s1, e1, h1, _, _⟩ := next_some h0 2000 (by omega)
  obtain ⟨v2, a2, s2, e2, h2, _⟩ := pick_some h1 [v1, 0, 100000, 100001] (by simp) (by simp)
  obtain ⟨v3, a3, s3, e3, h3, _, _⟩ := next_some h2 1500 (by omega)
  obtain ⟨v4, a4, s4, e4, h4, _⟩ := pick_some h3 [wrap64 (1000 + v3), 1, 100000, 0] (by simp) (by simp)
  obtain ⟨v5, a5, s5, e5, h5, _, _⟩ := next_some h4 60 (by omega)
  obtain ⟨v6, a6, s6, e6, h6, _⟩ := pick_some h5 [24, v5, 1000, 1001] (by simp) (by simp)
  obtain ⟨v7, a7, s7, e7, h7, _, _⟩ := next_some h6 3000 (by omega)
  obtain ⟨v8, a8, s8, e8, h8, _, _⟩ := next_some h7 20000 (by omega)
  obtain ⟨v9, a9, s9, e9, h9, _⟩ := pick_some h8 [wrap64 (500 + v7), v8, 0, 100000, 100001] (by simp) (by simp)
  refine ⟨v2, v4, v6, v9, ?_⟩
  unfold spec_DrawMostIgniters.f
  refine Ev.bind e0 ?_
  simp only [e1, e2, e3, e4, e5, e6, e7, e8, e9, Option.bind_some]
  exact Ev.now _
theorem most_val (lead r v c : Int) : ∃ q : Int × Int, Ev (fun k => spec_MostIgniters.f k lead r v c) q ∧ Ev (fun k => impl_MostIgniters.f k lead r v c) q ∧ (q.2 = 0 → (0 ≤ lead ∧ lead ≤ 100000) ∧ (1 ≤ r ∧ r ≤ 100000) ∧ (0 ≤ v ∧ v ≤ 1000) ∧ (1 ≤ q.1 ∧ q.1 ≤ 10) ∧ MiP lead r v c q.1) := by
  obtain ⟨q, h⟩ := agree_MostIgniters lead r v c
  refine ⟨q, ⟨12, fun k hk => (h k hk).1⟩, ⟨12, fun k hk => (h k hk).2⟩, fun e => ?_⟩
  have h1 := (h 12 (Nat.le_refl _)).2
  rw [impl_MostIgniters_f] at h1
  by_cases g : 0 ≤ lead ∧ lead ≤ 100000 ∧ 1 ≤ r ∧ r ≤ 100000 ∧ 0 ≤ v ∧ v ≤ 1000 ∧ 0 ≤ c ∧ c ≤ 100000
  · rw [if_pos g] at h1
    obtain ⟨N, n0, n1, n2, n3, n4⟩ := mi_impl (c := c) (lead := lead) (r := r) (v := v) (by omega) (by omega) (by omega) 10 11 10 (by omega) (by omega) (by omega) (fun m h1 h2 => by omega)
    rw [n2] at h1
    injection h1 with h1
    by_cases z : N = 0
    · rw [if_pos z] at h1
      rw [← h1] at e
      cases e
    · rw [if_neg z] at h1
      rw [← h1]
      exact ⟨by omega, by omega, by omega, ⟨by show 1 ≤ N; omega, n1⟩, n3 (by omega)⟩
  · rw [if_neg g] at h1
    injection h1 with h1
    rw [← h1] at e
    cases e
theorem cur_val {x : Int} {l : List Int} (h : PCirc x l) {v : Int} (hv : 0 ≤ v ∧ v ≤ 1000) : Ev (fun k => impl_CurrentOf.f k x l v) (1000000 * v / (x + sumI l), 0) := by
  have hl := h.2.1
  have hi := impl_IsCircuit_ev x l (by omega)
  rw [tt_pos h] at hi
  have hr := circ_rng h
  unfold impl_CurrentOf.f
  refine Ev.bind hi ?_
  simp only [if_true, impl_areVolts.f, within_eq, Option.bind_some, decide_eq_true_eq, if_pos hv]
  refine Ev.bind (impl_exp_ev h) ?_
  have a0 := Int.ediv_nonneg (show 0 ≤ 1000000 * v by omega) (show 0 ≤ x + sumI l by omega)
  have a1 := Int.ediv_le_self (x + sumI l) (show 0 ≤ 1000000 * v by omega)
  simp only [if_neg (show ¬ x + sumI l = 0 by omega), w64 (n := 1000000 * v) (by omega), Int.tdiv_eq_ediv_of_nonneg (show 0 ≤ 1000000 * v by omega), w64 (n := 1000000 * v / (x + sumI l)) (by omega)]
  exact Ev.now _
theorem exp_val {x : Int} {l : List Int} (h : PCirc x l) : Ev (fun k => impl_ExpectedOf.f k x l) (x + sumI l, 0) := by
  have hl := h.2.1
  have hi := impl_IsCircuit_ev x l (by omega)
  rw [tt_pos h] at hi
  unfold impl_ExpectedOf.f
  refine Ev.bind hi ?_
  simp only [if_true]
  exact Ev.bind (impl_exp_ev h) (Ev.now _)
theorem sumI_snoc (m : Int) : ∀ l : List Int, sumI (l ++ [m]) = sumI l + m
  | [] => by simp [sumI]
  | a :: s => by
    simp only [List.cons_append, sumI]
    rw [sumI_snoc m s]
    omega
theorem sumI_rep (r : Int) : ∀ n : Nat, sumI (List.replicate n r) = n * r
  | 0 => by simp [sumI]
  | n + 1 => by
    rw [List.replicate_succ]
    simp only [sumI]
    rw [sumI_rep r n, show ((n + 1 : Nat) : Int) = (n : Int) + 1 by omega, Int.add_mul]
    omega
theorem curr_val (m0_0 : Int) (m0_1 : List Int) (a1 : Int) (hn0_1 : m0_1.length ≤ 1000000) : ∃ q : Int × Int, Ev (fun k => spec_CurrentOf.f k m0_0 m0_1 a1) q ∧ Ev (fun k => impl_CurrentOf.f k m0_0 m0_1 a1) q := by
  have hs := spec_IsCircuit_ev m0_0 m0_1 (by omega)
  have hi := impl_IsCircuit_ev m0_0 m0_1 (by omega)
  by_cases h : PCirc m0_0 m0_1
  · rw [tt_pos h] at hs hi
    have hr := circ_rng h
    have sc : ∀ q, Ev (fun k => if 0 ≤ a1 ∧ a1 ≤ 1000 then ((spec_l14Expected.f k m0_0 m0_1).bind fun t139 => (if t139 = 0 then (none) else (some (wrap64 (Int.tdiv (wrap64 (1000000 * a1)) t139), 0)))) else (some (0, 2))) q → Ev (fun k => spec_CurrentOf.f k m0_0 m0_1 a1) q := fun q hq => by
      unfold spec_CurrentOf.f
      refine Ev.bind hs ?_
      simp only [if_true, l01In_eq, Option.bind_some, decide_eq_true_eq]
      exact hq
    have ic : ∀ q, Ev (fun k => if 0 ≤ a1 ∧ a1 ≤ 1000 then ((impl_expectedOf.f k m0_0 m0_1).bind fun t153 => (if t153 = 0 then (none) else (some (wrap64 (Int.tdiv (wrap64 (1000000 * a1)) t153), 0)))) else (some (0, 2))) q → Ev (fun k => impl_CurrentOf.f k m0_0 m0_1 a1) q := fun q hq => by
      unfold impl_CurrentOf.f
      refine Ev.bind hi ?_
      simp only [if_true, impl_areVolts.f, within_eq, Option.bind_some, decide_eq_true_eq]
      exact hq
    by_cases c : 0 ≤ a1 ∧ a1 ≤ 1000
    · refine ⟨(wrap64 (Int.tdiv (wrap64 (1000000 * a1)) (m0_0 + sumI m0_1)), 0), sc _ ?_, ic _ ?_⟩
      · simp only [if_pos c]
        refine Ev.bind (spec_exp_ev h) ?_
        simp only [if_neg (show ¬ m0_0 + sumI m0_1 = 0 by omega)]
        exact Ev.now _
      · simp only [if_pos c]
        refine Ev.bind (impl_exp_ev h) ?_
        simp only [if_neg (show ¬ m0_0 + sumI m0_1 = 0 by omega)]
        exact Ev.now _
    · refine ⟨(0, 2), sc _ ?_, ic _ ?_⟩
      · simp only [if_neg c]
        exact Ev.now _
      · simp only [if_neg c]
        exact Ev.now _
  · rw [tt_neg h] at hs hi
    refine ⟨(0, 1), ?_, ?_⟩
    · unfold spec_CurrentOf.f
      refine Ev.bind hs ?_
      simp only [Bool.false_eq_true, if_false]
      exact Ev.now _
    · unfold impl_CurrentOf.f
      refine Ev.bind hi ?_
      simp only [Bool.false_eq_true, if_false]
      exact Ev.now _
theorem volts_val (m0_0 : Int) (m0_1 : List Int) (a1 : Int) (hn0_1 : m0_1.length ≤ 1000000) : ∃ q : Int × Int, Ev (fun k => spec_VoltsFor.f k m0_0 m0_1 a1) q ∧ Ev (fun k => impl_VoltsFor.f k m0_0 m0_1 a1) q ∧ (q.2 = 0 → PCirc m0_0 m0_1 ∧ (0 ≤ a1 ∧ a1 ≤ 100000) ∧ q.1 = (a1 * (m0_0 + sumI m0_1) + 999999) / 1000000) := by
  have hs := spec_IsCircuit_ev m0_0 m0_1 (by omega)
  have hi := impl_IsCircuit_ev m0_0 m0_1 (by omega)
  by_cases h : PCirc m0_0 m0_1
  · rw [tt_pos h] at hs hi
    have hr := circ_rng h
    have sc : ∀ q, Ev (fun k => if 0 ≤ a1 ∧ a1 ≤ 100000 then ((spec_l14Expected.f k m0_0 m0_1).bind fun t140 => ((spec_l01Ceil.f (wrap64 (a1 * t140)) 1000000).bind fun t141 => (some (t141, 0)))) else (some (0, 2))) q → Ev (fun k => spec_VoltsFor.f k m0_0 m0_1 a1) q := fun q hq => by
      unfold spec_VoltsFor.f
      refine Ev.bind hs ?_
      simp only [if_true, l01In_eq, Option.bind_some, decide_eq_true_eq]
      exact hq
    have ic : ∀ q, Ev (fun k => if 0 ≤ a1 ∧ a1 ≤ 100000 then ((impl_expectedOf.f k m0_0 m0_1).bind fun t155 => ((impl_ceilDiv.f (wrap64 (a1 * t155)) 1000000).bind fun t156 => (some (t156, 0)))) else (some (0, 2))) q → Ev (fun k => impl_VoltsFor.f k m0_0 m0_1 a1) q := fun q hq => by
      unfold impl_VoltsFor.f
      refine Ev.bind hi ?_
      simp only [if_true, impl_isCurrent.f, within_eq, Option.bind_some, decide_eq_true_eq]
      exact hq
    by_cases c : 0 ≤ a1 ∧ a1 ≤ 100000
    · have hm : 0 ≤ a1 * (m0_0 + sumI m0_1) ∧ a1 * (m0_0 + sumI m0_1) ≤ 1000000000000 := by
        have h1 : 0 ≤ a1 * (m0_0 + sumI m0_1) := Int.mul_nonneg c.1 (by omega)
        have h2 : a1 * (m0_0 + sumI m0_1) ≤ a1 * 1100000 := Int.mul_le_mul_of_nonneg_left hr.2 c.1
        omega
      refine ⟨((a1 * (m0_0 + sumI m0_1) + 999999) / 1000000, 0), sc _ ?_, ic _ ?_, fun _ => ⟨h, c, rfl⟩⟩
      · simp only [if_pos c]
        refine Ev.bind (spec_exp_ev h) ?_
        simp only [w64 (n := a1 * (m0_0 + sumI m0_1)) (by omega), spec_ceilM_eq hm, Option.bind_some]
        exact Ev.now _
      · simp only [if_pos c]
        refine Ev.bind (impl_exp_ev h) ?_
        simp only [w64 (n := a1 * (m0_0 + sumI m0_1)) (by omega), impl_ceilM_eq hm, Option.bind_some]
        exact Ev.now _
    · refine ⟨(0, 2), sc _ ?_, ic _ ?_, fun e => absurd e (by decide)⟩
      · simp only [if_neg c]
        exact Ev.now _
      · simp only [if_neg c]
        exact Ev.now _
  · rw [tt_neg h] at hs hi
    refine ⟨(0, 1), ?_, ?_, fun e => absurd e (by decide)⟩
    · unfold spec_VoltsFor.f
      refine Ev.bind hs ?_
      simp only [Bool.false_eq_true, if_false]
      exact Ev.now _
    · unfold impl_VoltsFor.f
      refine Ev.bind hi ?_
      simp only [Bool.false_eq_true, if_false]
      exact Ev.now _
theorem addign_val (m0_0 : Int) (m0_1 : List Int) (a1 : Int) (hn0_1 : m0_1.length ≤ 1000000) : ∃ q : Int × List Int × Int, Ev (fun k => spec_AddIgniter.f k m0_0 m0_1 a1) q ∧ Ev (fun k => impl_AddIgniter.f k m0_0 m0_1 a1) q ∧ q.2.1.length ≤ 2000000 ∧ (q.2.2 = 0 → PCirc m0_0 m0_1 ∧ (1 ≤ a1 ∧ a1 ≤ 100000) ∧ m0_1.length < 10 ∧ q.1 = m0_0 ∧ q.2.1 = m0_1 ++ [a1]) := by
  have hs := spec_IsCircuit_ev m0_0 m0_1 (by omega)
  have hi := impl_IsCircuit_ev m0_0 m0_1 (by omega)
  by_cases h : PCirc m0_0 m0_1
  · rw [tt_pos h] at hs hi
    have hl := h.2.1
    by_cases c : 1 ≤ a1 ∧ a1 ≤ 100000
    · by_cases c2 : (m0_1.length : Int) = 10
      · refine ⟨(0, [], 3), ?_, ?_, by simp, fun e => absurd e (by decide)⟩
        · unfold spec_AddIgniter.f
          refine Ev.bind hs ?_
          simp only [if_true, l01In_eq, Option.bind_some, decide_eq_true_eq, if_pos c, if_pos c2, if_neg (show ¬ (3 : Int) = 0 by decide), if_neg (show ¬ (3 : Nat) = 0 by decide)]
          exact Ev.now _
        · unfold impl_AddIgniter.f
          refine Ev.bind hi ?_
          simp only [if_true, impl_isIgniter.f, within_eq, Option.bind_some, decide_eq_true_eq, if_pos c, if_pos c2]
          exact Ev.now _
      · refine ⟨(m0_0, m0_1 ++ [a1], 0), ?_, ?_, by simp; omega, fun _ => ⟨h, c, by omega, rfl, rfl⟩⟩
        · unfold spec_AddIgniter.f
          refine Ev.bind hs ?_
          simp only [if_true, l01In_eq, Option.bind_some, decide_eq_true_eq, if_pos c, if_neg c2, spec_l01Own.f, List.length_nil, Nat.zero_add, if_pos (show m0_1.length < 17592186044416 by omega), List.nil_append, List.length_singleton, if_pos (show m0_1.length + 1 < 17592186044416 by omega)]
          exact Ev.now _
        · unfold impl_AddIgniter.f
          refine Ev.bind hi ?_
          simp only [if_true, impl_isIgniter.f, within_eq, Option.bind_some, decide_eq_true_eq, if_pos c, if_neg c2, impl_copyList.f, List.length_nil, Nat.zero_add, if_pos (show m0_1.length < 17592186044416 by omega), List.nil_append, List.length_singleton, if_pos (show m0_1.length + 1 < 17592186044416 by omega)]
          exact Ev.now _
    · refine ⟨(0, [], 2), ?_, ?_, by simp, fun e => absurd e (by decide)⟩
      · unfold spec_AddIgniter.f
        refine Ev.bind hs ?_
        simp only [if_true, l01In_eq, Option.bind_some, decide_eq_true_eq, if_neg c, if_neg (show ¬ (2 : Int) = 0 by decide), if_neg (show ¬ (2 : Nat) = 0 by decide)]
        exact Ev.now _
      · unfold impl_AddIgniter.f
        refine Ev.bind hi ?_
        simp only [if_true, impl_isIgniter.f, within_eq, Option.bind_some, decide_eq_true_eq, if_neg c]
        exact Ev.now _
  · rw [tt_neg h] at hs hi
    refine ⟨(0, [], 1), ?_, ?_, by simp, fun e => absurd e (by decide)⟩
    · unfold spec_AddIgniter.f
      refine Ev.bind hs ?_
      simp only [Bool.false_eq_true, if_false, if_neg (show ¬ (1 : Int) = 0 by decide), if_neg (show ¬ (1 : Nat) = 0 by decide)]
      exact Ev.now _
    · unfold impl_AddIgniter.f
      refine Ev.bind hi ?_
      simp only [Bool.false_eq_true, if_false]
      exact Ev.now _
theorem curr_j4 {x : Int} {l : List Int} {p v bad : Int} (hv : bad = 0 → PCirc x l ∧ (0 ≤ p ∧ p ≤ 100000) ∧ v = (p * (x + sumI l) + 999999) / 1000000) : Ev (fun k => laws_FnCurrents.j4 k p v bad x l) true := by
  have over : Ev (fun k => laws_FnCurrents.j5 k p v true x l) true := by
    refine Ev_shift ?_
    simp only [laws_FnCurrents.j5, if_true]
    exact Ev.now _
  refine Ev_shift ?_
  simp only [laws_FnCurrents.j4]
  by_cases c0 : bad = 0
  · obtain ⟨h, hp, e⟩ := hv c0
    have hr := circ_rng h
    have hm : 0 ≤ p * (x + sumI l) := Int.mul_nonneg hp.1 (by omega)
    simp only [if_pos c0]
    by_cases c1 : v > 1000
    · simp only [decide_eq_true c1]
      exact over
    · simp only [decide_eq_false c1]
      refine Ev_shift ?_
      simp only [laws_FnCurrents.j5, Bool.false_eq_true, if_false]
      refine Ev.bind (cur_val h (v := v) (by omega)) ?_
      have own : p ≤ 1000000 * v / (x + sumI l) := by
        rw [Int.le_ediv_iff_mul_le (by omega)]
        omega
      simp only [if_true, decide_eq_false (show ¬ 1000000 * v / (x + sumI l) < p by omega)]
      refine Ev_shift ?_
      simp only [laws_FnCurrents.j6, Bool.false_eq_true, if_false]
      by_cases c2 : v = 0
      · simp only [if_pos c2]
        exact Ev.now _
      · simp only [if_neg c2, w64 (n := v - 1) (by omega)]
        refine Ev.bind (cur_val h (v := v - 1) (by omega)) ?_
        simp only [if_true]
        refine Ev_some (decide_eq_true ?_)
        rw [Int.ediv_lt_iff_lt_mul (by omega)]
        omega
  · simp only [if_neg c0]
    exact over
theorem curr_l0 {x : Int} {l : List Int} {p v bad lead r u w : Int} (n : Nat) (hl : 0 ≤ lead ∧ lead ≤ 100000) (hr : 1 ≤ r ∧ r ≤ 100000) (hu : 0 ≤ u ∧ u ≤ 1000) (hn : 1 ≤ n ∧ n ≤ 10) (hm : MiP lead r u w n) (next : Ev (fun k => laws_FnCurrents.j4 k p v bad x l) true) : ∀ (d i : Nat), i + d = n → Ev (fun k => laws_FnCurrents.l0 k p v bad r u w (n : Int) (i : Int) x l lead (List.replicate i r)) true
  | 0, i, hd => by
    have hc : PCirc lead (List.replicate i r) := ⟨hl, by rw [List.length_replicate]; omega, fun y hy => by rw [List.eq_of_mem_replicate hy]; exact hr⟩
    refine Ev_shift ?_
    simp only [laws_FnCurrents.l0, if_neg (show ¬ (i : Int) < (n : Int) by omega)]
    refine Ev.bind (cur_val hc hu) ?_
    rw [sumI_rep]
    unfold MiP at hm
    rw [show i = n by omega]
    simp only [if_true, if_neg (show ¬ 1000000 * u / (lead + (n : Int) * r) < w by omega)]
    exact next
  | d + 1, i, hd => by
    refine Ev_shift ?_
    have e : List.replicate i r ++ [r] = List.replicate (i + 1) r := by
      rw [List.replicate_succ']
    simp only [laws_FnCurrents.l0, if_pos (show (i : Int) < (n : Int) by omega), List.length_replicate, if_pos (show i < 17592186044416 by omega), w64 (n := (i : Int) + 1) (by omega), e]
    have := curr_l0 n hl hr hu hn hm next d (i + 1) (by omega)
    rw [show ((i + 1 : Nat) : Int) = (i : Int) + 1 by omega] at this
    exact this
theorem FnCurrents : laws_FnCurrents.Pure := by
  intro c _ _ hw
  have hb := u8_rng hw
  by_cases big : (c.length : Int) > 4096
  · refine ⟨0, ?_⟩
    unfold laws_FnCurrents.f laws_big.f
    simp only [Option.bind_some, decide_eq_true big, if_true]
  · suffices hq : Ev (fun k => laws_FnCurrents.f k c) true by
      obtain ⟨K, hK⟩ := hq
      exact ⟨K, hK K (Nat.le_refl _)⟩
    obtain ⟨x, l, p, ed, hl⟩ := drawVolts_ev c (by omega) hb
    obtain ⟨x2, l2, p2, ed2, hl2⟩ := drawCur_ev c (by omega) hb
    obtain ⟨z, zl, m, ez, hzl⟩ := drawIgn_ev c (by omega) hb
    obtain ⟨lead, r, u, w, em⟩ := drawMost_ev c (by omega) hb
    obtain ⟨⟨v, bad⟩, vs, vi, vv⟩ := volts_val x l p (by omega)
    obtain ⟨⟨i, one⟩, is, ii⟩ := curr_val x2 l2 p2 (by omega)
    obtain ⟨⟨a, al, three⟩, aS, ai, ag, av⟩ := addign_val z zl m (by omega)
    obtain ⟨⟨n, five⟩, ns, ni, nv⟩ := most_val lead r u w
    simp only at vv ag av nv
    unfold laws_FnCurrents.f laws_big.f
    simp only [Option.bind_some, decide_eq_false big, Bool.false_eq_true, if_false]
    refine Ev.bind ed (Ev.bind vi (Ev.bind vs (Ev.bind ed2 (Ev.bind ii (Ev.bind is (Ev.bind ez (Ev.bind ai (Ev.bind aS (Ev.bind em (Ev.bind ni (Ev.bind ns ?_)))))))))))
    simp only [if_true]
    have like : Ev (fun k => laws_likeCircuit.f k a al a al) true := by
      unfold laws_likeCircuit.f
      simp only [if_true]
      exact Ev.bind (likeInts_self al (by omega)) (Ev.now _)
    refine Ev.bind like ?_
    simp only [if_true, bne_self_eq_false]
    have j4 := curr_j4 vv
    have j2 : Ev (fun k => laws_FnCurrents.j2 k p v bad lead r u w five n x l) true := by
      refine Ev_shift ?_
      simp only [laws_FnCurrents.j2]
      by_cases c0 : five = 0
      · obtain ⟨h1, h2, h3, h4, h5⟩ := nv c0
        simp only [if_pos c0]
        have := curr_l0 n.toNat h1 h2 h3 (by omega) (by rw [show ((n.toNat : Nat) : Int) = n by omega]; exact h5) j4 n.toNat 0 (by omega)
        rw [show ((n.toNat : Nat) : Int) = n by omega] at this
        exact this
      · simp only [if_neg c0]
        exact j4
    refine Ev_shift ?_
    simp only [laws_FnCurrents.j0, Bool.false_eq_true, if_false]
    by_cases c0 : three = 0
    · obtain ⟨h, hm, hlen, e1, e2⟩ := av c0
      subst e1 e2
      have hr := circ_rng h
      have h' : PCirc a (zl ++ [m]) := ⟨h.1, by simp; omega, fun y hy => by
        rcases List.mem_append.1 hy with hy | hy
        · exact h.2.2 y hy
        · rw [List.mem_singleton.1 hy]
          exact hm⟩
      have es := sumI_snoc m zl
      obtain ⟨s, er⟩ := roll_ev c (by omega) 1401
      obtain ⟨q, q2, q3, eq, q0, q1⟩ := dice_some c (by omega) hb s (n := 1001) (by omega)
      simp only [if_pos c0]
      refine Ev.bind (exp_val h) (Ev.bind (exp_val h') ?_)
      have e3 : (a + sumI (zl ++ [m]) != wrap64 (a + sumI zl + m)) = false := by
        rw [w64 (n := a + sumI zl + m) (by omega), es, show a + (sumI zl + m) = a + sumI zl + m by omega]
        exact bne_self_eq_false _
      simp only [if_true, e3]
      refine Ev_shift ?_
      simp only [laws_FnCurrents.j1, Bool.false_eq_true, if_false]
      refine Ev.bind er ?_
      simp only [eq, Option.bind_some]
      refine Ev.bind (cur_val h' (v := q) (by omega)) (Ev.bind (cur_val h (v := q) (by omega)) ?_)
      have le : 1000000 * q / (a + sumI (zl ++ [m])) ≤ 1000000 * q / (a + sumI zl) := by
        rw [Int.le_ediv_iff_mul_le (by omega)]
        have a0 := Int.ediv_nonneg (show 0 ≤ 1000000 * q by omega) (show 0 ≤ a + sumI (zl ++ [m]) by omega)
        have a1 := Int.ediv_mul_le (1000000 * q) (show a + sumI (zl ++ [m]) ≠ 0 by omega)
        have a2 := Int.mul_le_mul_of_nonneg_left (show a + sumI zl ≤ a + sumI (zl ++ [m]) by omega) a0
        omega
      simp only [if_true, if_neg (show ¬ 1000000 * q / (a + sumI (zl ++ [m])) > 1000000 * q / (a + sumI zl) by omega)]
      exact j2
    · simp only [if_neg c0]
      exact j2
end Go.Proofs.Ytedcdhnbceaaeaa.Pure
