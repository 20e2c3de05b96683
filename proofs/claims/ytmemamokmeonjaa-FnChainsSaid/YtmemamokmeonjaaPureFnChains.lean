/- The plain law of FnChains: what the printed functions compute, without Go and memory. No condition but the bounds that stand in it. -/
import Derived.Test.YtmemamokmeonjaaPFnChainsx0
import Derived.Test.YtmemamokmeonjaaQFnChainsa
import Derived.Test.YtmemamokmeonjaaQFnChainsb
import Derived.Test.YtmemamokmeonjaaQFnChainsc
import Derived.Test.YtmemamokmeonjaaQFnChainsd
import Derived.Test.YtmemamokmeonjaaOpen
namespace Go.Proofs.Ytmemamokmeonjaa.Pure
open Go.RowKit Go.Proofs.Ytmemamokmeonjaa.PFnChains Go.Proofs.YtmemamokmeonjaaW.PrintWords Go.Proofs.YtmemamokmeonjaaW.PrintLast Go.Proofs.Ytmemamokmeonjaa.Opening
set_option linter.unusedVariables false
set_option linter.unusedSimpArgs false
theorem w64 {n : Int} (h : -9223372036854775808 ≤ n ∧ n ≤ 9223372036854775807) : wrap64 n = n := by
  unfold wrap64
  omega
theorem l01In_eq (a b c : Int) : spec_l01In.f a b c = some (decide (b ≤ a ∧ a ≤ c)) := by
  unfold spec_l01In.f
  by_cases h : b ≤ a <;> simp [h]
theorem within_eq (a b c : Int) : impl_within.f a b c = some (decide (b ≤ a ∧ a ≤ c)) := by
  unfold impl_within.f
  by_cases h : b ≤ a <;> simp [h]
theorem drop_cons {α : Type} {l : List α} {i : Int} {a : α} {s : List α} (z : α) (h0 : 0 ≤ i) (h : l.drop i.toNat = a :: s) : i < l.length ∧ l.getD i.toNat z = a ∧ l.drop (i + 1).toNat = s := by
  have hlt : i.toNat < l.length := by
    rcases Nat.lt_or_ge i.toNat l.length with h1 | h1
    · exact h1
    · rw [List.drop_eq_nil_of_le h1] at h; cases h
  rw [List.drop_eq_getElem_cons hlt] at h
  injection h with h1 h2
  refine ⟨by omega, ?_, ?_⟩
  · rw [List.getD_eq_getElem?_getD, List.getElem?_eq_getElem hlt]; exact h1
  · rw [show (i + 1).toNat = i.toNat + 1 by omega]; exact h2
theorem drop_nil {α : Type} {l : List α} {i : Int} (h0 : 0 ≤ i) (h : l.drop i.toNat = []) : ¬ i < (l.length : Int) := by
  have := List.drop_eq_nil_iff.1 h
  omega
theorem Ev_shift {α : Type} {g : Nat → Option α} {r : α} (h : Ev (fun k => g (k + 1)) r) : Ev g r := Ev.step (fun _ => rfl) h
theorem Ev_eq {α : Type} {g : Nat → Option α} {r q : α} (h : Ev g r) (e : r = q) : Ev g q := e ▸ h
theorem Ev_some {α : Type} {r q : α} (e : r = q) : Ev (fun _ => some r) q := e ▸ Ev.now r
noncomputable def tt (p : Prop) : Bool := @decide p (Classical.propDecidable p)
theorem tt_pos {p : Prop} (h : p) : tt p = true := by unfold tt; exact @decide_eq_true p (Classical.propDecidable p) h
theorem tt_neg {p : Prop} (h : ¬ p) : tt p = false := by unfold tt; exact @decide_eq_false p (Classical.propDecidable p) h
theorem tt_dec (p : Prop) [i : Decidable p] : tt p = decide p := by
  by_cases h : p
  · rw [tt_pos h, decide_eq_true h]
  · rw [tt_neg h, decide_eq_false h]
theorem tt_iff {p q : Prop} (h : p ↔ q) : tt p = tt q := by rw [propext h]
theorem tt_and (p q : Prop) : (tt p && tt q) = tt (p ∧ q) := by
  by_cases h : p
  · rw [tt_pos h, Bool.true_and]; exact tt_iff ⟨fun x => ⟨h, x⟩, fun x => x.2⟩
  · rw [tt_neg h, Bool.false_and, tt_neg (fun x => h x.1)]
theorem tt_eq_true {p : Prop} : tt p = true ↔ p := by
  by_cases h : p
  · exact ⟨fun _ => h, fun _ => tt_pos h⟩
  · refine ⟨fun e => ?_, fun h' => absurd h' h⟩
    rw [tt_neg h] at e
    cases e
theorem rd_mem {l : List Int} {i : Int} (h0 : 0 ≤ i) (h1 : i < l.length) : rd l i ∈ l := by
  have hlt : i.toNat < l.length := by omega
  have e : rd l i = l[i.toNat] := by
    show l.getD i.toNat _ = _
    rw [List.getD_eq_getElem?_getD, List.getElem?_eq_getElem hlt]
    rfl
  rw [e]
  exact List.getElem_mem hlt
/-- A source of drawn numbers. -/
def Src (c : List Int) (a s : Int) : Prop := (0 ≤ a ∧ a ≤ c.length ∧ c.length ≤ 4096) ∧ (0 ≤ s ∧ s < 2147483647) ∧ ∀ x ∈ c, 0 ≤ x ∧ x ≤ 255
theorem next_some {c : List Int} {a s : Int} (h : Src c a s) (n : Int) (hn : n ≤ 1000000000000) : ∃ v a' s', spec_l01Next.f c a s n = some (v, a', s') ∧ Src c a' s' ∧ 0 ≤ v ∧ (v < n ∨ v = 0) := by
  have ha := h.1
  have hs := h.2.1
  unfold spec_l01Next.f
  by_cases c1 : n ≤ 1
  · rw [if_pos c1]
    exact ⟨0, a, s, rfl, h, by omega, .inr rfl⟩
  · rw [if_neg c1]
    have w1 : wrap64 (wrap64 (s * 48271) + 29) = s * 48271 + 29 := by rw [w64 (n := s * 48271) (by omega), w64 (by omega)]
    obtain ⟨e, he⟩ : ∃ e, Int.tmod (s * 48271 + 29) 2147483647 = e := ⟨_, rfl⟩
    have e0 : 0 ≤ e := he ▸ Int.tmod_nonneg _ (by omega)
    have e1 : e < 2147483647 := he ▸ Int.tmod_lt_of_pos _ (by omega)
    obtain ⟨q, hq⟩ : ∃ q, Int.tdiv e 31 = q := ⟨_, rfl⟩
    have q0 : 0 ≤ q ∧ q ≤ e := by
      rw [← hq, Int.tdiv_eq_ediv_of_nonneg e0]
      omega
    have src : ∀ a' : Int, 0 ≤ a' → a' ≤ (c.length : Int) → Src c a' e := fun a' h0 h1 => ⟨⟨h0, h1, ha.2.2⟩, ⟨e0, e1⟩, h.2.2⟩
    have md : ∀ x, 0 ≤ x → 0 ≤ Int.tmod x n ∧ Int.tmod x n < n := fun x hx => ⟨Int.tmod_nonneg _ hx, Int.tmod_lt_of_pos _ (by omega)⟩
    by_cases c2 : a < c.length
    · have hr := h.2.2 (rd c a) (rd_mem ha.1 c2)
      simp only [w1, he, hq, w64 (n := q) (by omega), if_pos c2, if_pos ha.1, w64 (n := a + 1) (by omega), w64 (n := a + 1 - 1) (by omega), show a + 1 - 1 = a by omega, w64 (n := a) (by omega), w64 (n := rd c a) (by omega), w64 (n := q + rd c a) (by omega), if_neg (show ¬ n = 0 by omega)]
      have m1 := md (rd c a) hr.1
      have m2 := md (q + rd c a) (by omega)
      by_cases c3 : n ≤ 256
      · by_cases c4 : Int.tmod (a + 1) 2 = 0
        · simp only [if_pos c3, if_pos c4]
          exact ⟨_, a + 1, e, rfl, src (a + 1) (by omega) (by omega), m1.1, .inl m1.2⟩
        · simp only [if_pos c3, if_neg c4]
          exact ⟨_, a + 1, e, rfl, src (a + 1) (by omega) (by omega), m2.1, .inl m2.2⟩
      · simp only [if_neg c3]
        exact ⟨_, a + 1, e, rfl, src (a + 1) (by omega) (by omega), m2.1, .inl m2.2⟩
    · have m3 := md q q0.1
      simp only [w1, he, hq, w64 (n := q) (by omega), if_neg c2, if_neg (show ¬ n = 0 by omega)]
      exact ⟨_, a, e, rfl, src a ha.1 ha.2.1, m3.1, .inl m3.2⟩
theorem pick_some {c : List Int} {a s : Int} (h : Src c a s) (l : List Int) (h1 : 1 ≤ l.length) (h2 : l.length ≤ 1000) : ∃ v a' s', spec_l01Pick.f c a s l = some (v, a', s') ∧ Src c a' s' ∧ v ∈ l := by
  obtain ⟨v, a', s', e, hs, h0, hv⟩ := next_some h l.length (by omega)
  refine ⟨rd l v, a', s', ?_, hs, rd_mem h0 (by omega)⟩
  unfold spec_l01Pick.f
  rw [e]
  simp only [Option.bind_some]
  rw [if_pos h0, if_pos (by omega)]
theorem from_l0 (c : List Int) (hc : c.length ≤ 4096) (hb : ∀ x ∈ c, 0 ≤ x ∧ x ≤ 255) : ∀ (d : Nat) (i s : Int), 0 ≤ i → i + d = c.length → 0 ≤ s → s < 2147483647 → ∃ s', Ev (fun k => spec_l01From.l0 k c i c 0 s) (c, 0, s') ∧ Src c 0 s'
  | 0, i, s, h0, hd, s0, s1 => by
    refine ⟨s, Ev_shift ?_, ⟨by omega, by omega, hc⟩, ⟨s0, s1⟩, hb⟩
    simp only [spec_l01From.l0, if_neg (show ¬ i < (c.length : Int) by omega)]
    exact Ev.now _
  | d + 1, i, s, h0, hd, s0, s1 => by
    have hi : i < (c.length : Int) := by omega
    have hr := hb (rd c i) (rd_mem h0 hi)
    by_cases c2 : i < 64
    · obtain ⟨s', e, hs⟩ := from_l0 c hc hb d (i + 1) (Int.tmod (s * 83 + rd c i) 2147483647) (by omega) (by omega) (Int.tmod_nonneg _ (by omega)) (Int.tmod_lt_of_pos _ (by omega))
      refine ⟨s', Ev_shift ?_, hs⟩
      simp only [spec_l01From.l0, if_pos hi, if_pos c2, if_pos h0, w64 (n := i + 1) (by omega), w64 (n := s * 83) (by omega), w64 (n := rd c i) (by omega), w64 (n := s * 83 + rd c i) (by omega)]
      exact e
    · refine ⟨s, Ev_shift ?_, ⟨by omega, by omega, hc⟩, ⟨s0, s1⟩, hb⟩
      simp only [spec_l01From.l0, if_pos hi, if_neg c2]
      exact Ev.now _
theorem from_ev (c : List Int) (hc : c.length ≤ 4096) (hb : ∀ x ∈ c, 0 ≤ x ∧ x ≤ 255) : ∃ s, Ev (fun k => spec_l01From.f k c) (c, 0, s) ∧ Src c 0 s := by
  unfold spec_l01From.f
  exact from_l0 c hc hb c.length 0 61043 (by omega) (by omega) (by omega) (by omega)
theorem u8_rng {l : List Int} (h : ∀ x ∈ l, (Lit.int .u8 x).wf = true) : ∀ x ∈ l, 0 ≤ x ∧ x ≤ 255 := by
  intro x hx
  have := h x hx
  simp only [Lit.wf, Bool.and_eq_true, decide_eq_true_eq] at this
  have h1 : IntKind.min .u8 = 0 := by decide
  have h2 : IntKind.max .u8 = 255 := by decide
  rw [h1, h2] at this
  exact this
theorem likeInts_l0 (l : List Int) (hl : l.length ≤ 10000000) : ∀ (d : Nat) (i : Int), 0 ≤ i → i + d = l.length → Ev (fun k => laws_likeInts.l0 k l l i) true
  | 0, i, h0, hd => by
    refine Ev_shift ?_
    simp only [laws_likeInts.l0, if_neg (show ¬ i < (l.length : Int) by omega)]
    exact Ev.now _
  | d + 1, i, h0, hd => by
    refine Ev_shift ?_
    simp only [laws_likeInts.l0, if_pos (show i < (l.length : Int) by omega), if_pos h0, if_true, w64 (n := i + 1) (by omega)]
    exact likeInts_l0 l hl d (i + 1) (by omega) (by omega)
theorem likeInts_self (l : List Int) (hl : l.length ≤ 10000000) : Ev (fun k => laws_likeInts.f k l l) true := by
  unfold laws_likeInts.f
  simp only [if_true]
  exact likeInts_l0 l hl l.length 0 (by omega) (by omega)
theorem likeRows_l0 (l : List (List Int)) (hl : l.length ≤ 10000000) (hx : ∀ x ∈ l, x.length ≤ 10000000) : ∀ (d : Nat) (i : Int), 0 ≤ i → i + d = l.length → Ev (fun k => laws_likeRows.l0 k l l i) true
  | 0, i, h0, hd => by
    refine Ev_shift ?_
    simp only [laws_likeRows.l0, if_neg (show ¬ i < (l.length : Int) by omega)]
    exact Ev.now _
  | d + 1, i, h0, hd => by
    refine Ev_shift ?_
    have hlt : i.toNat < l.length := by omega
    have e : rd_L3 l i = l[i.toNat] := by
      show l.getD i.toNat _ = _
      rw [List.getD_eq_getElem?_getD, List.getElem?_eq_getElem hlt]
      rfl
    simp only [laws_likeRows.l0, if_pos (show i < (l.length : Int) by omega), if_pos h0]
    refine Ev.bind (likeInts_self _ (by rw [e]; exact hx _ (List.getElem_mem hlt))) ?_
    simp only [if_true, w64 (n := i + 1) (by omega)]
    exact likeRows_l0 l hl hx d (i + 1) (by omega) (by omega)
theorem likeRows_self (l : List (List Int)) (hl : l.length ≤ 10000000) (hx : ∀ x ∈ l, x.length ≤ 10000000) : Ev (fun k => laws_likeRows.f k l l) true := by
  unfold laws_likeRows.f
  simp only [if_true]
  exact likeRows_l0 l hl hx l.length 0 (by omega) (by omega)
/-- Chains. -/
def PLink (x : S176) : Prop := (0 ≤ x.f0 ∧ x.f0 ≤ 100000) ∧ (x.f0 ≤ x.f1 ∧ x.f1 ≤ 100000)
def PChain (l : List S176) : Prop := l.length ≤ 20 ∧ ∀ x ∈ l, PLink x
def sumA : List S176 → Int
  | [] => 0
  | x :: s => x.f0 + sumA s
def sumB : List S176 → Int
  | [] => 0
  | x :: s => x.f1 + sumB s
theorem sumA_append : ∀ (l s : List S176), sumA (l ++ s) = sumA l + sumA s
  | [], s => by simp [sumA]
  | x :: l, s => by simp only [List.cons_append, sumA, sumA_append l s]; omega
theorem sumB_append : ∀ (l s : List S176), sumB (l ++ s) = sumB l + sumB s
  | [], s => by simp [sumB]
  | x :: l, s => by simp only [List.cons_append, sumB, sumB_append l s]; omega
theorem sums_rng : ∀ (l : List S176), (∀ x ∈ l, PLink x) → 0 ≤ sumA l ∧ sumA l ≤ sumB l ∧ sumB l ≤ 100000 * l.length
  | [], _ => by simp [sumA, sumB]
  | x :: l, h => by
    have := sums_rng l (fun y hy => h y (by simp [hy]))
    have hx := h x (by simp)
    unfold PLink at hx
    simp only [sumA, sumB, List.length_cons]
    omega
theorem spec_IsChain_l0 (l : List S176) (hn : l.length ≤ 1000000) : ∀ (s : List S176) (i : Int), 0 ≤ i → l.drop i.toNat = s → Ev (fun k => spec_IsChain.l0 k l i) (tt (l.length ≤ 20 ∧ ∀ x ∈ s, PLink x))
  | [], i, h0, h => by
    refine Ev_shift ?_
    simp only [spec_IsChain.l0, if_neg (drop_nil h0 h)]
    refine Ev_some ?_
    rw [← tt_dec]
    exact tt_iff ⟨fun h => ⟨by omega, fun x hx => by simp at hx⟩, fun h => by have := h.1; omega⟩
  | c :: s, i, h0, h => by
    refine Ev_shift ?_
    obtain ⟨h1, h2, h3⟩ := drop_cons z176 h0 h
    have h2' : rd_T176 l i = c := h2
    simp only [spec_IsChain.l0, if_pos h1, if_pos h0, h2', l01In_eq, Option.bind_some, decide_eq_true_eq, w64 (n := i + 1) (by omega)]
    by_cases c1 : 0 ≤ c.f0 ∧ c.f0 ≤ 100000
    · by_cases c2 : c.f0 ≤ c.f1 ∧ c.f1 ≤ 100000
      · simp only [if_pos c1, if_pos c2]
        refine Ev_eq (spec_IsChain_l0 l hn s (i + 1) (by omega) h3) (tt_iff ⟨fun h => ⟨h.1, fun x hx => ?_⟩, fun h => ⟨h.1, fun x hx => h.2 x (by simp [hx])⟩⟩)
        rcases List.mem_cons.1 hx with rfl | hx
        · exact ⟨c1, c2⟩
        · exact h.2 x hx
      · simp only [if_pos c1, if_neg c2]
        exact Ev_some (tt_neg (fun h => c2 (h.2 c (by simp)).2)).symm
    · simp only [if_neg c1]
      exact Ev_some (tt_neg (fun h => c1 (h.2 c (by simp)).1)).symm
theorem spec_IsChain_ev (l : List S176) (hn : l.length ≤ 1000000) : Ev (fun k => spec_IsChain.f k l) (tt (PChain l)) := by
  unfold spec_IsChain.f
  exact spec_IsChain_l0 l hn l 0 (by omega) rfl
theorem impl_IsChain_l0 (l : List S176) (hn : l.length ≤ 1000000) : ∀ (s : List S176) (i : Int), 0 ≤ i → l.drop i.toNat = s → Ev (fun k => impl_IsChain.l0 k l l.length i) (tt (∀ x ∈ s, PLink x))
  | [], i, h0, h => by
    refine Ev_shift ?_
    simp only [impl_IsChain.l0, if_neg (drop_nil h0 h)]
    exact Ev_some (tt_pos (fun x hx => by simp at hx)).symm
  | c :: s, i, h0, h => by
    refine Ev_shift ?_
    obtain ⟨h1, h2, h3⟩ := drop_cons z176 h0 h
    have h2' : rd_T176 l i = c := h2
    simp only [impl_IsChain.l0, if_pos h1, if_pos h0, h2', within_eq, Option.bind_some, decide_eq_true_eq, w64 (n := i + 1) (by omega)]
    by_cases c1 : 0 ≤ c.f0 ∧ c.f0 ≤ 100000
    · by_cases c2 : c.f0 ≤ c.f1 ∧ c.f1 ≤ 100000
      · simp only [if_pos c1, if_pos c2]
        refine Ev_eq (impl_IsChain_l0 l hn s (i + 1) (by omega) h3) (tt_iff ⟨fun h x hx => ?_, fun h x hx => h x (by simp [hx])⟩)
        rcases List.mem_cons.1 hx with rfl | hx
        · exact ⟨c1, c2⟩
        · exact h x hx
      · simp only [if_pos c1, if_neg c2]
        exact Ev_some (tt_neg (fun h => c2 (h c (by simp)).2)).symm
    · simp only [if_neg c1]
      exact Ev_some (tt_neg (fun h => c1 (h c (by simp)).1)).symm
theorem impl_IsChain_ev (l : List S176) (hn : l.length ≤ 1000000) : Ev (fun k => impl_IsChain.f k l) (tt (PChain l)) := by
  unfold impl_IsChain.f
  by_cases c : (l.length : Int) > 20
  · simp only [if_pos c]
    exact Ev_some (tt_neg (fun h => by have := h.1; omega)).symm
  · simp only [if_neg c]
    exact Ev_eq (impl_IsChain_l0 l hn l 0 (by omega) rfl) (tt_iff ⟨fun h => ⟨by omega, h⟩, fun h => h.2⟩)
theorem spec_lsum_l0 (l : List S176) (b : Int) (hb : b ≤ l.length) (hl : l.length ≤ 20) (hx : ∀ x ∈ l, PLink x) : ∀ (s : List S176) (i x y : Int), 0 ≤ i → i ≤ b → (l.take b.toNat).drop i.toNat = s → 0 ≤ x → x ≤ 100000 * i → 0 ≤ y → y ≤ 100000 * i → Ev (fun k => spec_l11Sum.l0 k l b x y i) (x + sumA s, y + sumB s)
  | [], i, x, y, h0, hi, h, x0, x1, y0, y1 => by
    refine Ev_shift ?_
    have := drop_nil h0 h
    simp only [List.length_take] at this
    simp only [spec_l11Sum.l0, if_neg (show ¬ i < b by omega), sumA, sumB, Int.add_zero]
    exact Ev.now _
  | c :: s, i, x, y, h0, hi, h, x0, x1, y0, y1 => by
    refine Ev_shift ?_
    obtain ⟨h1, h2, h3⟩ := drop_cons z176 h0 h
    simp only [List.length_take] at h1
    have hlt : i.toNat < l.length := by omega
    have h2' : rd_T176 l i = c := by
      rw [← h2]
      show l.getD _ _ = _
      rw [List.getD_eq_getElem?_getD, List.getD_eq_getElem?_getD, List.getElem?_take, if_pos (by omega)]
    have hc := hx c (List.mem_of_mem_take (List.mem_of_mem_drop (show c ∈ (l.take b.toNat).drop i.toNat by rw [h]; simp)))
    unfold PLink at hc
    simp only [spec_l11Sum.l0, if_pos (show i < b by omega), if_pos h0, if_pos (show i < (l.length : Int) by omega), h2', w64 (n := x + c.f0) (by omega), w64 (n := y + c.f1) (by omega), w64 (n := i + 1) (by omega)]
    refine Ev_eq (spec_lsum_l0 l b hb hl hx s (i + 1) (x + c.f0) (y + c.f1) (by omega) (by omega) h3 (by omega) (by omega) (by omega) (by omega)) ?_
    simp only [sumA, sumB]
    congr 1 <;> omega
theorem spec_lsum_ev {l : List S176} (h : PChain l) {a b : Int} (h0 : 0 ≤ a) (h1 : a ≤ b) (h2 : b ≤ l.length) : Ev (fun k => spec_l11Sum.f k l a b) (sumA ((l.take b.toNat).drop a.toNat), sumB ((l.take b.toNat).drop a.toNat)) := by
  unfold spec_l11Sum.f
  have := spec_lsum_l0 l b h2 h.1 h.2 _ a 0 0 h0 h1 rfl (by omega) (by omega) (by omega) (by omega)
  rw [Int.zero_add, Int.zero_add] at this
  exact this
theorem impl_lsum_l0 (l : List S176) (hl : l.length ≤ 20) (hx : ∀ x ∈ l, PLink x) : ∀ (s : List S176) (i x y : Int), 0 ≤ i → l.drop i.toNat = s → 0 ≤ x → x ≤ 100000 * i → 0 ≤ y → y ≤ 100000 * i → Ev (fun k => impl_burnTimes.l0 k x y l l.length i) (x + sumA s, y + sumB s)
  | [], i, x, y, h0, h, x0, x1, y0, y1 => by
    refine Ev_shift ?_
    simp only [impl_burnTimes.l0, if_neg (drop_nil h0 h), sumA, sumB, Int.add_zero]
    exact Ev.now _
  | c :: s, i, x, y, h0, h, x0, x1, y0, y1 => by
    refine Ev_shift ?_
    obtain ⟨h1, h2, h3⟩ := drop_cons z176 h0 h
    have h2' : rd_T176 l i = c := h2
    have hc := hx c (List.mem_of_mem_drop (show c ∈ l.drop i.toNat by rw [h]; simp))
    unfold PLink at hc
    simp only [impl_burnTimes.l0, if_pos h1, if_pos h0, h2', w64 (n := x + c.f0) (by omega), w64 (n := y + c.f1) (by omega), w64 (n := i + 1) (by omega)]
    refine Ev_eq (impl_lsum_l0 l hl hx s (i + 1) (x + c.f0) (y + c.f1) (by omega) h3 (by omega) (by omega) (by omega) (by omega)) ?_
    simp only [sumA, sumB]
    congr 1 <;> omega
theorem impl_lsum_ev (l : List S176) (hl : l.length ≤ 20) (hx : ∀ x ∈ l, PLink x) : Ev (fun k => impl_burnTimes.f k l) (sumA l, sumB l) := by
  unfold impl_burnTimes.f
  have := impl_lsum_l0 l hl hx l 0 0 0 (by omega) rfl (by omega) (by omega) (by omega) (by omega)
  rw [Int.zero_add, Int.zero_add] at this
  exact this
/-- The times after each number of links. -/
def rowsF (l : List S176) : Nat → Int → List (List Int)
  | 0, _ => []
  | d + 1, i => [sumA (l.take i.toNat), sumB (l.take i.toNat)] :: rowsF l d (i + 1)
theorem rowsF_length (l : List S176) : ∀ (d : Nat) (i : Int), (rowsF l d i).length = d
  | 0, _ => rfl
  | d + 1, i => by simp [rowsF, rowsF_length l d]
theorem rowsF_get (l : List S176) : ∀ (d : Nat) (i j : Int), 0 ≤ i → 0 ≤ j → j < d → rd_L3 (rowsF l d i) j = [sumA (l.take (i + j).toNat), sumB (l.take (i + j).toNat)]
  | 0, i, j, _, h0, h1 => by omega
  | d + 1, i, j, hi, h0, h1 => by
    by_cases e : j = 0
    · subst e
      rw [Int.add_zero]
      rfl
    · have := rowsF_get l d (i + 1) (j - 1) (by omega) (by omega) (by omega)
      rw [show i + 1 + (j - 1) = i + j by omega] at this
      rw [← this]
      show (([_, _] : List Int) :: rowsF l d (i + 1)).getD j.toNat _ = (rowsF l d (i + 1)).getD (j - 1).toNat _
      rw [show j.toNat = (j - 1).toNat + 1 by omega]
      rfl
theorem rowsF_mem (l : List S176) : ∀ (d : Nat) (i : Int), ∀ x ∈ rowsF l d i, x.length = 2
  | 0, _, x, hx => by simp [rowsF] at hx
  | d + 1, i, x, hx => by
    rcases List.mem_cons.1 hx with rfl | hx
    · rfl
    · exact rowsF_mem l d (i + 1) x hx
theorem spec_times_l0 {l : List S176} (h : PChain l) : ∀ (d : Nat) (i : Int) (out : List (List Int)), 0 ≤ i → i + d = (l.length : Int) + 1 → out.length ≤ 100 - d → d ≤ 21 → Ev (fun k => spec_ChainTimes.l0 k l out i) (out ++ rowsF l d i, 0)
  | 0, i, out, h0, hd, ho, _ => by
    refine Ev_shift ?_
    simp only [spec_ChainTimes.l0, if_neg (show ¬ i ≤ (l.length : Int) by omega), rowsF, List.append_nil]
    exact Ev.now _
  | d + 1, i, out, h0, hd, ho, hd2 => by
    refine Ev_shift ?_
    simp only [spec_ChainTimes.l0, if_pos (show i ≤ (l.length : Int) by omega)]
    refine Ev.bind (spec_lsum_ev h (Int.le_refl 0) h0 (by omega)) ?_
    simp only [if_pos (show out.length < 5864062014805 by omega), w64 (n := i + 1) (by have := h.1; omega), Int.toNat_zero, List.drop_zero]
    refine Ev_eq (spec_times_l0 h d (i + 1) _ (by omega) (by omega) (by simp; omega) (by omega)) ?_
    simp only [rowsF, List.append_assoc, List.singleton_append]
theorem impl_times2_l0 {l : List S176} (h : PChain l) : ∀ (d : Nat) (i : Int) (out : List (List Int)), 0 ≤ i → i + d = (l.length : Int) + 1 → out.length ≤ 100 - d → d ≤ 21 → Ev (fun k => impl_ChainTimes.l0 k l out i) (out ++ rowsF l d i, 0)
  | 0, i, out, h0, hd, ho, _ => by
    refine Ev_shift ?_
    simp only [impl_ChainTimes.l0, if_neg (show ¬ i ≤ (l.length : Int) by omega), rowsF, List.append_nil]
    exact Ev.now _
  | d + 1, i, out, h0, hd, ho, hd2 => by
    refine Ev_shift ?_
    have hl := h.1
    simp only [impl_ChainTimes.l0, if_pos (show i ≤ (l.length : Int) by omega), if_pos h0]
    refine Ev.bind (impl_lsum_ev (l.take i.toNat) (by simp; omega) (fun x hx => h.2 x (List.mem_of_mem_take hx))) ?_
    simp only [if_pos (show out.length < 5864062014805 by omega), w64 (n := i + 1) (by omega)]
    refine Ev_eq (impl_times2_l0 h d (i + 1) _ (by omega) (by omega) (by simp; omega) (by omega)) ?_
    simp only [rowsF, List.append_assoc, List.singleton_append]
theorem times_ev (l : List S176) (hn : l.length ≤ 1000000) : ∃ t c, Ev (fun k => spec_ChainTimes.f k l) (t, c) ∧ Ev (fun k => impl_ChainTimes.f k l) (t, c) ∧ (PChain l ∧ t = rowsF l (l.length + 1) 0 ∧ c = 0 ∨ ¬ PChain l ∧ t = [] ∧ c = 1) := by
  have hs := spec_IsChain_ev l hn
  have hi := impl_IsChain_ev l hn
  by_cases h : PChain l
  · rw [tt_pos h] at hs hi
    have hl := h.1
    refine ⟨_, _, ?_, ?_, .inl ⟨h, rfl, rfl⟩⟩
    · unfold spec_ChainTimes.f
      refine Ev.bind hs ?_
      simp only [if_true]
      exact spec_times_l0 h (l.length + 1) 0 [] (by omega) (by omega) (by simp) (by omega)
    · unfold impl_ChainTimes.f
      refine Ev.bind hi ?_
      simp only [if_true]
      exact impl_times2_l0 h (l.length + 1) 0 [] (by omega) (by omega) (by simp) (by omega)
  · rw [tt_neg h] at hs hi
    refine ⟨_, _, ?_, ?_, .inr ⟨h, rfl, rfl⟩⟩
    · unfold spec_ChainTimes.f
      refine Ev.bind hs ?_
      simp only [Bool.false_eq_true, if_false]
      exact Ev.now _
    · unfold impl_ChainTimes.f
      refine Ev.bind hi ?_
      simp only [Bool.false_eq_true, if_false]
      exact Ev.now _
theorem gapB_ev (l : List S176) (hn : l.length ≤ 1000000) (a b : Int) : ∃ p q c, Ev (fun k => spec_GapBetween.f k l a b) (p, q, c) ∧ Ev (fun k => impl_GapBetween.f k l a b) (p, q, c) ∧ (c = 0 → PChain l ∧ 0 ≤ a ∧ a ≤ b ∧ b ≤ l.length ∧ p = sumA ((l.take b.toNat).drop a.toNat) ∧ q = sumB ((l.take b.toNat).drop a.toNat)) ∧ (c = 0 ∨ c = 1 ∨ c = 2) := by
  have hs := spec_IsChain_ev l hn
  have hi := impl_IsChain_ev l hn
  by_cases h : PChain l
  · rw [tt_pos h] at hs hi
    have hl := h.1
    have sc : ∀ q, Ev (fun k => if 0 ≤ a ∧ a ≤ (l.length : Int) then (if a ≤ b ∧ b ≤ (l.length : Int) then ((spec_l11Sum.f k l a b).bind fun bt222 => (some (bt222.1, bt222.2, 0))) else (some (0, 0, 2))) else (some (0, 0, 2))) q → Ev (fun k => spec_GapBetween.f k l a b) q := fun q hq => by
      unfold spec_GapBetween.f
      refine Ev.bind hs ?_
      simp only [if_true, l01In_eq, Option.bind_some, decide_eq_true_eq]
      exact hq
    have ic : ∀ q, Ev (fun k => if 0 ≤ a ∧ a ≤ (l.length : Int) then (if 0 ≤ b ∧ b ≤ (l.length : Int) then (if a > b then (some (0, 0, 2)) else (if 0 ≤ a then (if a ≤ b then (if b ≤ (l.length : Int) then ((impl_burnTimes.f k ((l.take (b : Int).toNat).drop (a : Int).toNat)).bind fun bt217 => (some (bt217.1, bt217.2, 0))) else (none)) else (none)) else (none))) else (some (0, 0, 2))) else (some (0, 0, 2))) q → Ev (fun k => impl_GapBetween.f k l a b) q := fun q hq => by
      unfold impl_GapBetween.f
      refine Ev.bind hi ?_
      simp only [if_true, impl_isIndex.f, within_eq, Option.bind_some, decide_eq_true_eq, w64 (n := (l.length : Int) + 1) (by omega), w64 (n := (l.length : Int) + 1 - 1) (by omega), show (l.length : Int) + 1 - 1 = l.length by omega, w64 (n := (l.length : Int)) (by omega)]
      exact hq
    by_cases c1 : 0 ≤ a ∧ a ≤ (l.length : Int)
    · by_cases c2 : a ≤ b ∧ b ≤ (l.length : Int)
      · refine ⟨_, _, 0, sc _ ?_, ic _ ?_, fun _ => ⟨h, c1.1, c2.1, c2.2, rfl, rfl⟩, .inl rfl⟩
        · simp only [if_pos c1, if_pos c2]
          exact Ev.bind (spec_lsum_ev h c1.1 c2.1 c2.2) (Ev.now _)
        · simp only [if_pos c1, if_pos (show 0 ≤ b ∧ b ≤ (l.length : Int) by omega), if_neg (show ¬ a > b by omega), if_pos c1.1, if_pos c2.1, if_pos c2.2]
          exact Ev.bind (impl_lsum_ev _ (by simp; omega) (fun x hx => h.2 x (List.mem_of_mem_take (List.mem_of_mem_drop hx)))) (Ev.now _)
      · refine ⟨0, 0, 2, sc _ ?_, ic _ ?_, fun e => by omega, by omega⟩
        · simp only [if_pos c1, if_neg c2]
          exact Ev.now _
        · by_cases c3 : 0 ≤ b ∧ b ≤ (l.length : Int)
          · simp only [if_pos c1, if_pos c3, if_pos (show a > b by omega)]
            exact Ev.now _
          · simp only [if_pos c1, if_neg c3]
            exact Ev.now _
    · refine ⟨0, 0, 2, sc _ ?_, ic _ ?_, fun e => by omega, by omega⟩
      · simp only [if_neg c1]
        exact Ev.now _
      · simp only [if_neg c1]
        exact Ev.now _
  · rw [tt_neg h] at hs hi
    refine ⟨0, 0, 1, ?_, ?_, fun e => by omega, by omega⟩
    · unfold spec_GapBetween.f
      refine Ev.bind hs ?_
      simp only [Bool.false_eq_true, if_false]
      exact Ev.now _
    · unfold impl_GapBetween.f
      refine Ev.bind hi ?_
      simp only [Bool.false_eq_true, if_false]
      exact Ev.now _
theorem joinC_ev (x y : List S176) (hx : x.length ≤ 1000000) (hy : y.length ≤ 1000000) : ∃ j c, Ev (fun k => spec_JoinChains.f k x y) (j, c) ∧ Ev (fun k => impl_JoinChains.f k x y) (j, c) ∧ (c = 0 → PChain j ∧ j.length = x.length + y.length) ∧ j.length ≤ 1000000 := by
  have hsx := spec_IsChain_ev x hx
  have hix := impl_IsChain_ev x hx
  have hsy := spec_IsChain_ev y hy
  have hiy := impl_IsChain_ev y hy
  have bs : Ev (fun k => spec_JoinChains.j0 k x y true) (([] : List S176), (1 : Int)) := by
    refine Ev_shift ?_
    simp only [spec_JoinChains.j0, if_true]
    exact Ev.now _
  have bi : Ev (fun k => impl_JoinChains.j0 k x y true) (([] : List S176), (1 : Int)) := by
    refine Ev_shift ?_
    simp only [impl_JoinChains.j0, if_true]
    exact Ev.now _
  by_cases h : PChain x
  · rw [tt_pos h] at hsx hix
    by_cases g : PChain y
    · rw [tt_pos g] at hsy hiy
      have h20 := h.1
      have g20 := g.1
      have ss : ∀ q, Ev (fun k => spec_JoinChains.j0 k x y false) q → Ev (fun k => spec_JoinChains.f k x y) q := fun q hq => by
        unfold spec_JoinChains.f
        refine Ev.bind hsx ?_
        simp only [if_true]
        exact Ev.bind hsy hq
      have si : ∀ q, Ev (fun k => impl_JoinChains.j0 k x y false) q → Ev (fun k => impl_JoinChains.f k x y) q := fun q hq => by
        unfold impl_JoinChains.f
        refine Ev.bind hix ?_
        simp only [if_true]
        exact Ev.bind hiy hq
      by_cases c : (x.length : Int) + (y.length : Int) > 20
      · refine ⟨[], 3, ss _ (Ev_shift ?_), si _ (Ev_shift ?_), fun e => by omega, by simp⟩
        · simp only [spec_JoinChains.j0, Bool.false_eq_true, if_false, w64 (n := (x.length : Int) + (y.length : Int)) (by omega), if_pos c]
          exact Ev.now _
        · simp only [impl_JoinChains.j0, Bool.false_eq_true, if_false, w64 (n := (x.length : Int) + (y.length : Int)) (by omega), if_pos c]
          exact Ev.now _
      · refine ⟨x ++ y, 0, ss _ (Ev_shift ?_), si _ (Ev_shift ?_), fun e => ⟨⟨by simp; omega, fun z hz => ?_⟩, by simp⟩, by simp; omega⟩
        · simp only [spec_JoinChains.j0, Bool.false_eq_true, if_false, w64 (n := (x.length : Int) + (y.length : Int)) (by omega), if_neg c, Option.bind_some, List.nil_append, List.length_nil, Nat.zero_add, if_pos (show x.length < 8796093022208 by omega), if_pos (show x.length + y.length < 8796093022208 by omega)]
          exact Ev.now _
        · simp only [impl_JoinChains.j0, Bool.false_eq_true, if_false, w64 (n := (x.length : Int) + (y.length : Int)) (by omega), if_neg c, Option.bind_some, List.nil_append, List.length_nil, Nat.zero_add, if_pos (show x.length < 8796093022208 by omega), if_pos (show x.length + y.length < 8796093022208 by omega)]
          exact Ev.now _
        · rcases List.mem_append.1 hz with hz | hz
          · exact h.2 z hz
          · exact g.2 z hz
    · rw [tt_neg g] at hsy hiy
      refine ⟨[], 1, ?_, ?_, fun e => by omega, by simp⟩
      · unfold spec_JoinChains.f
        refine Ev.bind hsx ?_
        simp only [if_true]
        exact Ev.bind hsy bs
      · unfold impl_JoinChains.f
        refine Ev.bind hix ?_
        simp only [if_true]
        exact Ev.bind hiy bi
  · rw [tt_neg h] at hsx hix
    refine ⟨[], 1, ?_, ?_, fun e => by omega, by simp⟩
    · unfold spec_JoinChains.f
      refine Ev.bind hsx ?_
      simp only [Bool.false_eq_true, if_false]
      exact bs
    · unfold impl_JoinChains.f
      refine Ev.bind hix ?_
      simp only [Bool.false_eq_true, if_false]
      exact bi
theorem goodC_l0 (c : List Int) : ∀ (d : Nat) (out : List S176) (a s : Int), Src c a s → out.length + d ≤ 7 → ∃ l a' s', Ev (fun k => spec_l11Good.l0 k out d c a s) (l, a', s') ∧ Src c a' s' ∧ l.length ≤ 7
  | 0, out, a, s, h, hd => by
    refine ⟨out, a, s, Ev_shift ?_, h, by omega⟩
    simp only [spec_l11Good.l0, if_neg (show ¬ ((0 : Nat) : Int) > 0 by decide)]
    exact Ev.now _
  | d + 1, out, a, s, h, hd => by
    obtain ⟨v1, a1, s1, e1, h1, _, _⟩ := next_some h 2000 (by omega)
    obtain ⟨v2, a2, s2, e2, h2, _, _⟩ := next_some h1 200 (by omega)
    obtain ⟨l, a', s', e, hs, hl⟩ := goodC_l0 c d (out ++ [(⟨v1, wrap64 (v1 + v2)⟩ : S176)]) a2 s2 h2 (by simp; omega)
    refine ⟨l, a', s', Ev_shift ?_, hs, hl⟩
    simp only [spec_l11Good.l0, if_pos (show ((d + 1 : Nat) : Int) > 0 by omega), e1, e2, Option.bind_some, if_pos (show out.length < 8796093022208 by omega), w64 (n := ((d + 1 : Nat) : Int) - 1) (by omega), show ((d + 1 : Nat) : Int) - 1 = (d : Int) by omega, w64 (n := (d : Int)) (by omega)]
    exact e
theorem goodC_ev {c : List Int} {a s : Int} (h : Src c a s) : ∃ l a' s', Ev (fun k => spec_l11Good.f k c a s) (l, a', s') ∧ Src c a' s' ∧ l.length ≤ 7 := by
  obtain ⟨v, a1, s1, e1, h1, v0, v1⟩ := next_some h 7 (by omega)
  obtain ⟨l, a', s', e, hs, hl⟩ := goodC_l0 c v.toNat [] a1 s1 h1 (by simp; omega)
  rw [show ((v.toNat : Nat) : Int) = v by omega] at e
  refine ⟨l, a', s', ?_, hs, hl⟩
  unfold spec_l11Good.f
  simp only [e1, Option.bind_some]
  exact e
theorem fillC_l0 (c : List Int) : ∀ (d : Nat) (out : List S176) (a s : Int), Src c a s → 22 ≤ out.length + d → out.length ≤ 22 → ∃ l a' s', Ev (fun k => spec_l11Draw.l0 k out c a s) (l, a', s') ∧ Src c a' s' ∧ l.length ≤ 30
  | d, out, a, s, h, hd, ho => by
    obtain ⟨v, a1, s1, e1, h1, v0, v1⟩ := next_some h 2 (by omega)
    by_cases c1 : (out.length : Int) < 20 + v
    · cases d with
      | zero => omega
      | succ d =>
        obtain ⟨l, a', s', e, hs, hl⟩ := fillC_l0 c d (out ++ [(⟨4, 9⟩ : S176)]) a1 s1 h1 (by simp; omega) (by simp; omega)
        refine ⟨l, a', s', Ev_shift ?_, hs, hl⟩
        simp only [spec_l11Draw.l0, e1, Option.bind_some, w64 (n := 20 + v) (by omega), if_pos c1, if_pos (show out.length < 8796093022208 by omega)]
        exact e
    · refine ⟨out, a1, s1, Ev_shift ?_, h1, by omega⟩
      simp only [spec_l11Draw.l0, e1, Option.bind_some, w64 (n := 20 + v) (by omega), if_neg c1]
      exact Ev.now _
theorem drawC_ev {c : List Int} {a s : Int} (h : Src c a s) : ∃ l a' s', Ev (fun k => spec_l11Draw.f k c a s) (l, a', s') ∧ Src c a' s' ∧ l.length ≤ 30 := by
  obtain ⟨l, a1, s1, e1, h1, hl⟩ := goodC_ev h
  obtain ⟨v, a2, s2, e2, h2, v0, v1⟩ := next_some h1 30 (by omega)
  by_cases c0 : v = 0
  · obtain ⟨p, a3, s3, e3, h3, _⟩ := pick_some h2 [6, (-1), 5] (by simp) (by simp)
    obtain ⟨q, a4, s4, e4, h4, _⟩ := pick_some h3 [5, 100000, 100001] (by simp) (by simp)
    refine ⟨l ++ [(⟨p, q⟩ : S176)], a4, s4, ?_, h4, by simp; omega⟩
    unfold spec_l11Draw.f
    refine Ev.bind e1 ?_
    simp only [e2, Option.bind_some, if_pos c0, e3, e4, if_pos (show l.length < 8796093022208 by omega)]
    exact Ev.now _
  · by_cases c1 : v = 1
    · obtain ⟨l', a', s', e, hs, hl'⟩ := fillC_l0 c 22 l a2 s2 h2 (by omega) (by omega)
      refine ⟨l', a', s', ?_, hs, hl'⟩
      unfold spec_l11Draw.f
      refine Ev.bind e1 ?_
      simp only [e2, Option.bind_some, if_neg c0, if_pos c1]
      exact e
    · refine ⟨l, a2, s2, ?_, h2, by omega⟩
      unfold spec_l11Draw.f
      refine Ev.bind e1 ?_
      simp only [e2, Option.bind_some, if_neg c0, if_neg c1]
      exact Ev.now _
theorem drawGap_ev (c : List Int) (hc : c.length ≤ 4096) (hb : ∀ x ∈ c, 0 ≤ x ∧ x ≤ 255) : ∃ (l : List S176) (a b : Int), Ev (fun k => spec_DrawGapBetween.f k c) (l, a, b) ∧ l.length ≤ 30 := by
  obtain ⟨s, e0, h0⟩ := from_ev c hc hb
  obtain ⟨l, a1, s1, e1, h1, hl⟩ := drawC_ev h0
  obtain ⟨v, a2, s2, e2, h2, v0, v1⟩ := next_some h1 ((l.length : Int) + 1) (by omega)
  obtain ⟨u, a3, s3, e3, h3, u0, u1⟩ := next_some h2 ((l.length : Int) + 2 - v) (by omega)
  obtain ⟨t, a4, s4, e4, h4, t0, t1⟩ := next_some h3 24 (by omega)
  refine ⟨l, v, wrap64 ((wrap64 (v + u)) - (wrap64 (Int.tdiv t 23))), ?_, hl⟩
  unfold spec_DrawGapBetween.f
  refine Ev.bind e0 (Ev.bind e1 ?_)
  simp only [w64 (n := (l.length : Int) + 1) (by omega), w64 (n := (l.length : Int) + 2) (by omega), e2, Option.bind_some, w64 (n := (l.length : Int) + 2 - v) (by omega), e3, e4]
  exact Ev.now _
theorem drawJoin_ev (c : List Int) (hc : c.length ≤ 4096) (hb : ∀ x ∈ c, 0 ≤ x ∧ x ≤ 255) : ∃ (x y : List S176), Ev (fun k => spec_DrawJoinChains.f k c) (x, y) ∧ x.length ≤ 30 ∧ y.length ≤ 30 := by
  obtain ⟨s, e0, h0⟩ := from_ev c hc hb
  obtain ⟨l, a1, s1, e1, h1, hl⟩ := drawC_ev h0
  obtain ⟨m, a2, s2, e2, h2, hm⟩ := drawC_ev h1
  refine ⟨l, m, ?_, hl, hm⟩
  unfold spec_DrawJoinChains.f
  exact Ev.bind e0 (Ev.bind e1 (Ev.bind e2 (Ev.now _)))
theorem likeLinks_l0 (l : List S176) (hl : l.length ≤ 10000000) : ∀ (d : Nat) (i : Int), 0 ≤ i → i + d = l.length → Ev (fun k => laws_likeLinks.l0 k l l i) true
  | 0, i, h0, hd => by
    refine Ev_shift ?_
    simp only [laws_likeLinks.l0, if_neg (show ¬ i < (l.length : Int) by omega)]
    exact Ev.now _
  | d + 1, i, h0, hd => by
    refine Ev_shift ?_
    simp only [laws_likeLinks.l0, if_pos (show i < (l.length : Int) by omega), if_pos h0, beq_self_eq_true, Bool.not_true, Bool.or_false, Bool.false_eq_true, if_false, w64 (n := i + 1) (by omega)]
    exact likeLinks_l0 l hl d (i + 1) (by omega) (by omega)
theorem likeLinks_self (l : List S176) (hl : l.length ≤ 10000000) : Ev (fun k => laws_likeLinks.f k l l) true := by
  unfold laws_likeLinks.f
  simp only [if_true]
  exact likeLinks_l0 l hl l.length 0 (by omega) (by omega)
theorem FnChains : laws_FnChains.Pure := by
  intro c _ _ hw
  have hb := u8_rng hw
  by_cases big : (c.length : Int) > 4096
  · refine ⟨0, ?_⟩
    unfold laws_FnChains.f laws_big.f
    simp only [Option.bind_some, decide_eq_true big, if_true]
  · suffices hq : Ev (fun k => laws_FnChains.f k c) true by
      obtain ⟨K, hK⟩ := hq
      exact ⟨K, hK K (Nat.le_refl _)⟩
    obtain ⟨l, a, b, eg, hl⟩ := drawGap_ev c (by omega) hb
    obtain ⟨x, y, ej, hx, hy⟩ := drawJoin_ev c (by omega) hb
    obtain ⟨p, q, w, gs, gi, gok, gc⟩ := gapB_ev l (by omega) a b
    obtain ⟨t, one, ts, ti, tc⟩ := times_ev l (by omega)
    obtain ⟨j, thr, js, ji, jok, jl⟩ := joinC_ev x y (by omega) (by omega)
    have ic := impl_IsChain_ev l (by omega)
    have tl : t.length ≤ 10000000 ∧ ∀ z ∈ t, z.length ≤ 10000000 := by
      rcases tc with ⟨_, rfl, _⟩ | ⟨_, rfl, _⟩
      · exact ⟨by rw [rowsF_length]; omega, fun z hz => by rw [rowsF_mem _ _ _ z hz]; omega⟩
      · simp
    have hone : (tt (PChain l) != (one == 0)) = false := by
      rcases tc with ⟨h, _, rfl⟩ | ⟨h, _, rfl⟩
      · rw [tt_pos h]; rfl
      · rw [tt_neg h]; rfl
    unfold laws_FnChains.f laws_big.f
    simp only [Option.bind_some, decide_eq_false big, Bool.false_eq_true, if_false]
    refine Ev.bind eg (Ev.bind gi (Ev.bind gs (Ev.bind ti (Ev.bind ts (Ev.bind ej (Ev.bind ji (Ev.bind js ?_)))))))
    simp only [if_true]
    refine Ev.bind (likeRows_self t tl.1 tl.2) ?_
    simp only [if_true]
    refine Ev.bind (likeLinks_self j (by omega)) ?_
    simp only [if_true]
    refine Ev.bind ic ?_
    simp only [hone]
    refine Ev_shift ?_
    simp only [laws_FnChains.j0, Bool.false_eq_true, if_false]
    have last : Ev (fun k => laws_FnChains.j1 k l a b p q w t t false) true := by
      refine Ev_shift ?_
      simp only [laws_FnChains.j1, Bool.false_eq_true, if_false]
      by_cases c0 : w = 0
      · obtain ⟨hp, a0, ab, bl, rfl, rfl⟩ := gok c0
        have h20 := hp.1
        rcases tc with ⟨_, rfl, _⟩ | ⟨h, _, _⟩
        · have ra := rowsF_get l (l.length + 1) 0 a (by omega) a0 (by omega)
          have rb := rowsF_get l (l.length + 1) 0 b (by omega) (by omega) (by omega)
          rw [Int.zero_add] at ra rb
          have hlen : ((rowsF l (l.length + 1) 0).length : Int) = l.length + 1 := by rw [rowsF_length]; omega
          have happ : l.take b.toNat = l.take a.toNat ++ (l.take b.toNat).drop a.toNat := by
            have := (List.take_append_drop a.toNat (l.take b.toNat)).symm
            rw [List.take_take, Nat.min_eq_left (by omega)] at this
            exact this
          have sa := congrArg sumA happ
          have sb := congrArg sumB happ
          rw [sumA_append] at sa
          rw [sumB_append] at sb
          have g1 := sums_rng (l.take a.toNat) (fun z hz => hp.2 z (List.mem_of_mem_take hz))
          have g2 := sums_rng ((l.take b.toNat).drop a.toNat) (fun z hz => hp.2 z (List.mem_of_mem_take (List.mem_of_mem_drop hz)))
          have n1 : ((l.take a.toNat).length : Int) ≤ 20 := by simp; omega
          have n2 : (((l.take b.toNat).drop a.toNat).length : Int) ≤ 20 := by simp; omega
          have r0 : ∀ u v : Int, rd [u, v] 0 = u := fun _ _ => rfl
          have r1 : ∀ u v : Int, rd [u, v] 1 = v := fun _ _ => rfl
          simp only [if_pos c0, if_pos (show 0 ≤ b by omega), hlen, if_pos (show b < (l.length : Int) + 1 by omega), if_pos a0, if_pos (show a < (l.length : Int) + 1 by omega), ra, rb, List.length_cons, List.length_nil, r0, r1, if_pos (show (0 : Int) < ((0 + 1 + 1 : Nat) : Int) by decide), if_pos (show (1 : Int) < ((0 + 1 + 1 : Nat) : Int) by decide),
            w64 (n := sumA (l.take b.toNat) - sumA (l.take a.toNat)) (by omega), w64 (n := sumB (l.take b.toNat) - sumB (l.take a.toNat)) (by omega), if_pos (show sumA ((l.take b.toNat).drop a.toNat) = sumA (l.take b.toNat) - sumA (l.take a.toNat) by omega), if_pos (show sumB ((l.take b.toNat).drop a.toNat) = sumB (l.take b.toNat) - sumB (l.take a.toNat) by omega), w64 (n := (l.length : Int) + 1) (by omega), beq_self_eq_true]
          rw [if_pos (by omega)]
          exact Ev.now _
        · exact absurd hp h
      · simp only [if_neg c0]
        exact Ev.now _
    by_cases c3 : thr = 0
    · obtain ⟨hj, hjl⟩ := jok c3
      have := impl_IsChain_ev j (by omega)
      rw [tt_pos hj] at this
      simp only [if_pos c3]
      refine Ev.bind this ?_
      simp only [if_true, w64 (n := (x.length : Int) + (y.length : Int)) (by omega), show ((j.length : Int) != (x.length : Int) + (y.length : Int)) = false from bne_eq_false_iff_eq.2 (by omega)]
      exact last
    · simp only [if_neg c3]
      exact last
end Go.Proofs.Ytmemamokmeonjaa.Pure
