/- The plain law of FnMixes: what the printed functions compute, without Go and memory. No condition but the bounds that stand in it. -/
import Derived.Test.YtffnhobhpfnimaaPFnMixesx0
import Derived.Test.YtffnhobhpfnimaaQFnMixesa
import Derived.Test.YtffnhobhpfnimaaQFnMixesb
import Derived.Test.YtffnhobhpfnimaaQFnMixesc
import Derived.Test.YtffnhobhpfnimaaQFnMixesd
import Derived.Test.YtffnhobhpfnimaaQFnMixese
import Derived.Test.YtffnhobhpfnimaaQFnMixesf
import Derived.Test.YtffnhobhpfnimaaOpen
namespace Go.Proofs.Ytffnhobhpfnimaa.Pure
open Go.RowKit Go.Proofs.Ytffnhobhpfnimaa.PFnMixes Go.Proofs.YtffnhobhpfnimaaW.PrintWords Go.Proofs.YtffnhobhpfnimaaW.PrintLast Go.Proofs.Ytffnhobhpfnimaa.Opening
set_option linter.unusedVariables false
set_option linter.unusedSimpArgs false
theorem w64 {n : Int} (h : -9223372036854775808 ≤ n ∧ n ≤ 9223372036854775807) : wrap64 n = n := by
  unfold wrap64
  omega
theorem l01In_eq (a b c : Int) : spec_l01In.f a b c = some (decide (b ≤ a ∧ a ≤ c)) := by
  unfold spec_l01In.f
  by_cases h : b ≤ a <;> simp [h]
theorem within_eq (a b c : Int) : impl_within.f a b c = some (decide (b ≤ a ∧ a ≤ c)) := by
  unfold impl_within.f
  by_cases h : b ≤ a <;> simp [h]
theorem drop_cons {α : Type} {l : List α} {i : Int} {a : α} {s : List α} (z : α) (h0 : 0 ≤ i) (h : l.drop i.toNat = a :: s) : i < l.length ∧ l.getD i.toNat z = a ∧ l.drop (i + 1).toNat = s := by
  have hlt : i.toNat < l.length := by
    rcases Nat.lt_or_ge i.toNat l.length with h1 | h1
    · exact h1
    · rw [List.drop_eq_nil_of_le h1] at h; cases h
  rw [List.drop_eq_getElem_cons hlt] at h
  injection h with h1 h2
  refine ⟨by omega, ?_, ?_⟩
  · rw [List.getD_eq_getElem?_getD, List.getElem?_eq_getElem hlt]; exact h1
  · rw [show (i + 1).toNat = i.toNat + 1 by omega]; exact h2
theorem drop_nil {α : Type} {l : List α} {i : Int} (h0 : 0 ≤ i) (h : l.drop i.toNat = []) : ¬ i < (l.length : Int) := by
  have := List.drop_eq_nil_iff.1 h
  omega
theorem Ev_shift {α : Type} {g : Nat → Option α} {r : α} (h : Ev (fun k => g (k + 1)) r) : Ev g r := Ev.step (fun _ => rfl) h
theorem Ev_eq {α : Type} {g : Nat → Option α} {r q : α} (h : Ev g r) (e : r = q) : Ev g q := e ▸ h
theorem Ev_some {α : Type} {r q : α} (e : r = q) : Ev (fun _ => some r) q := e ▸ Ev.now r
noncomputable def tt (p : Prop) : Bool := @decide p (Classical.propDecidable p)
theorem tt_pos {p : Prop} (h : p) : tt p = true := by unfold tt; exact @decide_eq_true p (Classical.propDecidable p) h
theorem tt_neg {p : Prop} (h : ¬ p) : tt p = false := by unfold tt; exact @decide_eq_false p (Classical.propDecidable p) h
theorem tt_dec (p : Prop) [i : Decidable p] : tt p = decide p := by
  by_cases h : p
  · rw [tt_pos h, decide_eq_true h]
  · rw [tt_neg h, decide_eq_false h]
theorem tt_iff {p q : Prop} (h : p ↔ q) : tt p = tt q := by rw [propext h]
theorem tt_and (p q : Prop) : (tt p && tt q) = tt (p ∧ q) := by
  by_cases h : p
  · rw [tt_pos h, Bool.true_and]; exact tt_iff ⟨fun x => ⟨h, x⟩, fun x => x.2⟩
  · rw [tt_neg h, Bool.false_and, tt_neg (fun x => h x.1)]
theorem tt_eq_true {p : Prop} : tt p = true ↔ p := by
  by_cases h : p
  · exact ⟨fun _ => h, fun _ => tt_pos h⟩
  · refine ⟨fun e => ?_, fun h' => absurd h' h⟩
    rw [tt_neg h] at e
    cases e
theorem ev_all {L : Int → Nat → Option Bool} {P : Int → Prop} {n : Int} {fin : Bool} (h1 : ∀ i, 0 ≤ i → i < n → P i → ∀ r, Ev (L (i + 1)) r → Ev (L i) r) (h2 : ∀ i, 0 ≤ i → i < n → ¬ P i → Ev (L i) false) (h3 : Ev (L n) fin) :
    ∀ (d : Nat) (i : Int), 0 ≤ i → i + d = n → Ev (L i) (fin && tt (∀ j, i ≤ j → j < n → P j))
  | 0, i, h0, hd => by
    have e : i = n := by omega
    rw [e, tt_pos (fun j h1 h2 => by omega), Bool.and_true]
    exact h3
  | d + 1, i, h0, hd => by
    by_cases hp : P i
    · have := h1 i h0 (by omega) hp _ (ev_all h1 h2 h3 d (i + 1) (by omega) (by omega))
      refine Ev_eq this ?_
      congr 1
      exact tt_iff ⟨fun h j h1 h2 => by
        by_cases e : j = i
        · rw [e]; exact hp
        · exact h j (by omega) h2, fun h j h1 h2 => h j (by omega) h2⟩
    · rw [tt_neg (fun h => hp (h i (Int.le_refl _) (by omega))), Bool.and_false]
      exact h2 i h0 (by omega) hp
theorem set_at_mid {α : Type} (p : List α) (b v : α) (s : List α) : (p ++ b :: s).set ((p.length : Int)).toNat v = p ++ v :: s := by
  rw [Int.toNat_natCast, List.set_append_right _ _ (Nat.le_refl _)]
  simp
theorem getD_at_mid {α : Type} (z : α) (p : List α) (b : α) (s : List α) : (p ++ b :: s).getD ((p.length : Int)).toNat z = b := by
  rw [Int.toNat_natCast, List.getD_eq_getElem?_getD, List.getElem?_append_right (Nat.le_refl _)]
  simp
theorem rd_mem {l : List Int} {i : Int} (h0 : 0 ≤ i) (h1 : i < l.length) : rd l i ∈ l := by
  have hlt : i.toNat < l.length := by omega
  have e : rd l i = l[i.toNat] := by
    show l.getD i.toNat _ = _
    rw [List.getD_eq_getElem?_getD, List.getElem?_eq_getElem hlt]
    rfl
  rw [e]
  exact List.getElem_mem hlt
theorem mem_rd {l : List Int} {x : Int} (h : x ∈ l) : ∃ i : Int, 0 ≤ i ∧ i < l.length ∧ rd l i = x := by
  obtain ⟨i, hi, rfl⟩ := List.mem_iff_getElem.1 h
  refine ⟨i, by omega, by omega, ?_⟩
  show l.getD _ _ = _
  rw [Int.toNat_natCast, List.getD_eq_getElem?_getD, List.getElem?_eq_getElem hi]
  rfl
/-- A source of drawn numbers. -/
def Src (c : List Int) (a s : Int) : Prop := (0 ≤ a ∧ a ≤ c.length ∧ c.length ≤ 4096) ∧ (0 ≤ s ∧ s < 2147483647) ∧ ∀ x ∈ c, 0 ≤ x ∧ x ≤ 255
theorem next_some {c : List Int} {a s : Int} (h : Src c a s) (n : Int) (hn : n ≤ 1000000000000) : ∃ v a' s', spec_l01Next.f c a s n = some (v, a', s') ∧ Src c a' s' ∧ 0 ≤ v ∧ (v < n ∨ v = 0) := by
  have ha := h.1
  have hs := h.2.1
  unfold spec_l01Next.f
  by_cases c1 : n ≤ 1
  · rw [if_pos c1]
    exact ⟨0, a, s, rfl, h, by omega, .inr rfl⟩
  · rw [if_neg c1]
    have w1 : wrap64 (wrap64 (s * 48271) + 29) = s * 48271 + 29 := by rw [w64 (n := s * 48271) (by omega), w64 (by omega)]
    obtain ⟨e, he⟩ : ∃ e, Int.tmod (s * 48271 + 29) 2147483647 = e := ⟨_, rfl⟩
    have e0 : 0 ≤ e := he ▸ Int.tmod_nonneg _ (by omega)
    have e1 : e < 2147483647 := he ▸ Int.tmod_lt_of_pos _ (by omega)
    obtain ⟨q, hq⟩ : ∃ q, Int.tdiv e 31 = q := ⟨_, rfl⟩
    have q0 : 0 ≤ q ∧ q ≤ e := by
      rw [← hq, Int.tdiv_eq_ediv_of_nonneg e0]
      omega
    have src : ∀ a' : Int, 0 ≤ a' → a' ≤ (c.length : Int) → Src c a' e := fun a' h0 h1 => ⟨⟨h0, h1, ha.2.2⟩, ⟨e0, e1⟩, h.2.2⟩
    have md : ∀ x, 0 ≤ x → 0 ≤ Int.tmod x n ∧ Int.tmod x n < n := fun x hx => ⟨Int.tmod_nonneg _ hx, Int.tmod_lt_of_pos _ (by omega)⟩
    by_cases c2 : a < c.length
    · have hr := h.2.2 (rd c a) (rd_mem ha.1 c2)
      simp only [w1, he, hq, w64 (n := q) (by omega), if_pos c2, if_pos ha.1, w64 (n := a + 1) (by omega), w64 (n := a + 1 - 1) (by omega), show a + 1 - 1 = a by omega, w64 (n := a) (by omega), w64 (n := rd c a) (by omega), w64 (n := q + rd c a) (by omega), if_neg (show ¬ n = 0 by omega)]
      have m1 := md (rd c a) hr.1
      have m2 := md (q + rd c a) (by omega)
      by_cases c3 : n ≤ 256
      · by_cases c4 : Int.tmod (a + 1) 2 = 0
        · simp only [if_pos c3, if_pos c4]
          exact ⟨_, a + 1, e, rfl, src (a + 1) (by omega) (by omega), m1.1, .inl m1.2⟩
        · simp only [if_pos c3, if_neg c4]
          exact ⟨_, a + 1, e, rfl, src (a + 1) (by omega) (by omega), m2.1, .inl m2.2⟩
      · simp only [if_neg c3]
        exact ⟨_, a + 1, e, rfl, src (a + 1) (by omega) (by omega), m2.1, .inl m2.2⟩
    · have m3 := md q q0.1
      simp only [w1, he, hq, w64 (n := q) (by omega), if_neg c2, if_neg (show ¬ n = 0 by omega)]
      exact ⟨_, a, e, rfl, src a ha.1 ha.2.1, m3.1, .inl m3.2⟩
theorem pick_some {c : List Int} {a s : Int} (h : Src c a s) (l : List Int) (h1 : 1 ≤ l.length) (h2 : l.length ≤ 1000) : ∃ v a' s', spec_l01Pick.f c a s l = some (v, a', s') ∧ Src c a' s' ∧ v ∈ l := by
  obtain ⟨v, a', s', e, hs, h0, hv⟩ := next_some h l.length (by omega)
  refine ⟨rd l v, a', s', ?_, hs, rd_mem h0 (by omega)⟩
  unfold spec_l01Pick.f
  rw [e]
  simp only [Option.bind_some]
  rw [if_pos h0, if_pos (by omega)]
theorem from_l0 (c : List Int) (hc : c.length ≤ 4096) (hb : ∀ x ∈ c, 0 ≤ x ∧ x ≤ 255) : ∀ (d : Nat) (i s : Int), 0 ≤ i → i + d = c.length → 0 ≤ s → s < 2147483647 → ∃ s', Ev (fun k => spec_l01From.l0 k c i c 0 s) (c, 0, s') ∧ Src c 0 s'
  | 0, i, s, h0, hd, s0, s1 => by
    refine ⟨s, Ev_shift ?_, ⟨by omega, by omega, hc⟩, ⟨s0, s1⟩, hb⟩
    simp only [spec_l01From.l0, if_neg (show ¬ i < (c.length : Int) by omega)]
    exact Ev.now _
  | d + 1, i, s, h0, hd, s0, s1 => by
    have hi : i < (c.length : Int) := by omega
    have hr := hb (rd c i) (rd_mem h0 hi)
    by_cases c2 : i < 64
    · obtain ⟨s', e, hs⟩ := from_l0 c hc hb d (i + 1) (Int.tmod (s * 83 + rd c i) 2147483647) (by omega) (by omega) (Int.tmod_nonneg _ (by omega)) (Int.tmod_lt_of_pos _ (by omega))
      refine ⟨s', Ev_shift ?_, hs⟩
      simp only [spec_l01From.l0, if_pos hi, if_pos c2, if_pos h0, w64 (n := i + 1) (by omega), w64 (n := s * 83) (by omega), w64 (n := rd c i) (by omega), w64 (n := s * 83 + rd c i) (by omega)]
      exact e
    · refine ⟨s, Ev_shift ?_, ⟨by omega, by omega, hc⟩, ⟨s0, s1⟩, hb⟩
      simp only [spec_l01From.l0, if_pos hi, if_neg c2]
      exact Ev.now _
theorem from_ev (c : List Int) (hc : c.length ≤ 4096) (hb : ∀ x ∈ c, 0 ≤ x ∧ x ≤ 255) : ∃ s, Ev (fun k => spec_l01From.f k c) (c, 0, s) ∧ Src c 0 s := by
  unfold spec_l01From.f
  exact from_l0 c hc hb c.length 0 61043 (by omega) (by omega) (by omega) (by omega)
theorem u8_rng {l : List Int} (h : ∀ x ∈ l, (Lit.int .u8 x).wf = true) : ∀ x ∈ l, 0 ≤ x ∧ x ≤ 255 := by
  intro x hx
  have := h x hx
  simp only [Lit.wf, Bool.and_eq_true, decide_eq_true_eq] at this
  have h1 : IntKind.min .u8 = 0 := by decide
  have h2 : IntKind.max .u8 = 255 := by decide
  rw [h1, h2] at this
  exact this
theorem likeInts_l0 (l : List Int) (hl : l.length ≤ 10000000) : ∀ (d : Nat) (i : Int), 0 ≤ i → i + d = l.length → Ev (fun k => laws_likeInts.l0 k l l i) true
  | 0, i, h0, hd => by
    refine Ev_shift ?_
    simp only [laws_likeInts.l0, if_neg (show ¬ i < (l.length : Int) by omega)]
    exact Ev.now _
  | d + 1, i, h0, hd => by
    refine Ev_shift ?_
    simp only [laws_likeInts.l0, if_pos (show i < (l.length : Int) by omega), if_pos h0, if_true, w64 (n := i + 1) (by omega)]
    exact likeInts_l0 l hl d (i + 1) (by omega) (by omega)
theorem likeInts_self (l : List Int) (hl : l.length ≤ 10000000) : Ev (fun k => laws_likeInts.f k l l) true := by
  unfold laws_likeInts.f
  simp only [if_true]
  exact likeInts_l0 l hl l.length 0 (by omega) (by omega)
theorem allWithin_l0 (l : List Int) (hn : l.length ≤ 140737488351232) (a b : Int) : ∀ (s : List Int) (i : Int), 0 ≤ i → l.drop i.toNat = s → Ev (fun k => impl_allWithin.l0 k a b l l.length i) (decide (∀ x ∈ s, a ≤ x ∧ x ≤ b))
  | [], i, h0, h => by
    refine Ev_shift ?_
    simp only [impl_allWithin.l0, if_neg (drop_nil h0 h)]
    exact Ev_some (by simp)
  | c :: s, i, h0, h => by
    refine Ev_shift ?_
    obtain ⟨h1, h2, h3⟩ := drop_cons 0 h0 h
    have h2' : rd l i = c := h2
    simp only [impl_allWithin.l0, if_pos h1, if_pos h0, h2', within_eq, Option.bind_some, decide_eq_true_eq, w64 (n := i + 1) (by omega)]
    by_cases hc : a ≤ c ∧ c ≤ b
    · simp only [if_pos hc]
      refine Ev_eq (allWithin_l0 l hn a b s (i + 1) (by omega) h3) ?_
      exact decide_eq_decide.2 ⟨fun h x hx => by
        rcases List.mem_cons.1 hx with rfl | hx
        · exact hc
        · exact h x hx, fun h x hx => h x (by simp [hx])⟩
    · simp only [if_neg hc]
      exact Ev_some (decide_eq_false (fun h => hc (h c (by simp)))).symm
theorem allWithin_ev (l : List Int) (hn : l.length ≤ 140737488351232) (a b : Int) : Ev (fun k => impl_allWithin.f k l a b) (decide (∀ x ∈ l, a ≤ x ∧ x ≤ b)) := by
  unfold impl_allWithin.f
  exact allWithin_l0 l hn a b l 0 (by omega) rfl
/-- Pieces. -/
def PPc (l : List Int) : Prop := 1 ≤ l.length ∧ l.length ≤ 8 ∧ (∀ x ∈ l, 1 ≤ x ∧ x ≤ 10000) ∧ ∀ j : Int, 1 ≤ j → j < l.length → rd l (j - 1) < rd l j
theorem ev_allF {L : Int → Nat → Option Bool} {P : Int → Prop} {n : Int} {fin : Bool} (lo : Int) (h1 : ∀ i, lo ≤ i → i < n → P i → ∀ r, Ev (L (i + 1)) r → Ev (L i) r) (h2 : ∀ i, lo ≤ i → i < n → ¬ P i → Ev (L i) false) (h3 : Ev (L n) fin) :
    ∀ (d : Nat) (i : Int), lo ≤ i → i + d = n → Ev (L i) (fin && tt (∀ j, i ≤ j → j < n → P j))
  | 0, i, h0, hd => by
    have e : i = n := by omega
    rw [e, tt_pos (fun j h1 h2 => by omega), Bool.and_true]
    exact h3
  | d + 1, i, h0, hd => by
    by_cases hp : P i
    · have := h1 i h0 (by omega) hp _ (ev_allF lo h1 h2 h3 d (i + 1) (by omega) (by omega))
      refine Ev_eq this ?_
      congr 1
      exact tt_iff ⟨fun h j h1 h2 => by
        by_cases e : j = i
        · rw [e]; exact hp
        · exact h j (by omega) h2, fun h j h1 h2 => h j (by omega) h2⟩
    · rw [tt_neg (fun h => hp (h i (Int.le_refl _) (by omega))), Bool.and_false]
      exact h2 i h0 (by omega) hp
theorem spec_ArePieces_ev (l : List Int) (hn : l.length ≤ 140737488351232) : Ev (fun k => spec_ArePieces.f k l) (tt (PPc l)) := by
  unfold spec_ArePieces.f
  have := ev_all (L := fun i k => spec_ArePieces.l0 k l i) (P := fun i => (1 ≤ rd l i ∧ rd l i ≤ 10000) ∧ (0 < i → rd l (i - 1) < rd l i)) (n := l.length) (fin := decide (1 ≤ l.length ∧ l.length ≤ 8)) (fun i h0 h1 hp r hr => ?_) (fun i h0 h1 hp => ?_) ?_ l.length 0 (by omega) (by omega)
  · refine Ev_eq this ?_
    rw [← tt_dec, tt_and]
    refine tt_iff ⟨fun h => ⟨h.1.1, h.1.2, fun x hx => ?_, fun j j0 j1 => (h.2 j (by omega) j1).2 (by omega)⟩, fun h => ⟨⟨h.1, h.2.1⟩, fun j h0 h1 => ⟨h.2.2.1 _ (rd_mem h0 h1), fun hj => h.2.2.2 j (by omega) h1⟩⟩⟩
    obtain ⟨i, i0, i1, rfl⟩ := mem_rd hx
    exact (h.2 i i0 i1).1
  · refine Ev_shift ?_
    simp only [spec_ArePieces.l0, if_pos h1, if_pos h0, l01In_eq, Option.bind_some, decide_eq_true_eq, if_pos hp.1, w64 (n := i + 1) (by omega)]
    by_cases hi : i > 0
    · have := hp.2 hi
      simp only [if_pos hi, w64 (n := i - 1) (by omega), if_pos (show 0 ≤ i - 1 by omega), if_pos (show i - 1 < (l.length : Int) by omega), if_neg (show ¬ rd l i ≤ rd l (i - 1) by omega)]
      exact hr
    · simp only [if_neg hi]
      exact hr
  · refine Ev_shift ?_
    simp only [spec_ArePieces.l0, if_pos h1, if_pos h0, l01In_eq, Option.bind_some, decide_eq_true_eq, w64 (n := i + 1) (by omega)]
    by_cases c : 1 ≤ rd l i ∧ rd l i ≤ 10000
    · by_cases hi : i > 0
      · have hle : rd l i ≤ rd l (i - 1) := by
          by_cases g : rd l (i - 1) < rd l i
          · exact absurd ⟨c, fun _ => g⟩ hp
          · omega
        simp only [if_pos c, if_pos hi, w64 (n := i - 1) (by omega), if_pos (show 0 ≤ i - 1 by omega), if_pos (show i - 1 < (l.length : Int) by omega), if_pos hle]
        exact Ev.now _
      · exact absurd ⟨c, fun h => absurd h hi⟩ hp
    · simp only [if_neg c]
      exact Ev.now _
  · refine Ev_shift ?_
    simp only [spec_ArePieces.l0, if_neg (show ¬ (l.length : Int) < l.length by omega), l01In_eq, Option.bind_some]
    exact Ev_some (decide_eq_decide.2 ⟨fun h => by omega, fun h => by omega⟩)
theorem impl_ArePieces_ev (l : List Int) (hn : l.length ≤ 140737488351232) : Ev (fun k => impl_ArePieces.f k l) (tt (PPc l)) := by
  unfold impl_ArePieces.f
  have bad : ¬ PPc l → Ev (fun k => impl_ArePieces.j0 k l true) (tt (PPc l)) := fun h => by
    refine Ev_shift ?_
    simp only [impl_ArePieces.j0, if_true]
    exact Ev_some (tt_neg h).symm
  by_cases c1 : (l.length : Int) < 1
  · simp only [if_pos c1]
    exact bad (fun h => by have := h.1; omega)
  · by_cases c2 : (l.length : Int) > 8
    · simp only [if_neg c1, if_pos c2]
      exact bad (fun h => by have := h.2.1; omega)
    · simp only [if_neg c1, if_neg c2]
      refine Ev.bind (allWithin_ev l hn 1 10000) ?_
      by_cases c3 : ∀ x ∈ l, 1 ≤ x ∧ x ≤ 10000
      · simp only [decide_eq_true c3, Bool.not_true]
        refine Ev_shift ?_
        simp only [impl_ArePieces.j0, Bool.false_eq_true, if_false]
        have := ev_allF (L := fun i k => impl_ArePieces.l0 k l i) (P := fun i => rd l (i - 1) < rd l i) (n := l.length) (fin := true) 1 (fun i h0 h1 hp r hr => ?_) (fun i h0 h1 hp => ?_) ?_ (l.length - 1) 1 (by omega) (by omega)
        · refine Ev_eq this ?_
          rw [Bool.true_and]
          exact tt_iff ⟨fun h => ⟨by omega, by omega, c3, fun j j0 j1 => h j j0 j1⟩, fun h j j0 j1 => h.2.2.2 j j0 j1⟩
        · refine Ev_shift ?_
          simp only [impl_ArePieces.l0, if_pos h1, w64 (n := i - 1) (by omega), if_pos (show 0 ≤ i - 1 by omega), if_pos (show i - 1 < (l.length : Int) by omega), if_pos (show 0 ≤ i by omega), if_neg (show ¬ rd l (i - 1) ≥ rd l i by omega), w64 (n := i + 1) (by omega)]
          exact hr
        · refine Ev_shift ?_
          simp only [impl_ArePieces.l0, if_pos h1, w64 (n := i - 1) (by omega), if_pos (show 0 ≤ i - 1 by omega), if_pos (show i - 1 < (l.length : Int) by omega), if_pos (show 0 ≤ i by omega), if_pos (show rd l (i - 1) ≥ rd l i by omega)]
          exact Ev.now _
        · refine Ev_shift ?_
          simp only [impl_ArePieces.l0, if_neg (show ¬ (l.length : Int) < l.length by omega)]
          exact Ev.now _
      · simp only [decide_eq_false c3, Bool.not_false]
        exact bad (fun h => c3 h.2.2.1)
/-- The least number of pieces: what is found at one total, what is found up to a total. -/
def minE (T : List Int) (n : Int) : List Int → Int → Int
  | [], a => a
  | p :: s, a => minE T n s (if p ≤ n then mn a (rd T (n - p) + 1) else a)
def tabF (ps : List Int) : Nat → List Int
  | 0 => [0]
  | n + 1 => tabF ps n ++ [minE (tabF ps n) (n + 1 : Nat) ps 31]
def valF (ps : List Int) (n : Nat) : Int := rd (tabF ps n) (n : Int)
/-- The reference's word for it. -/
def cvF (v : Int) : Int := if v ≤ 30 then v else -1
theorem tabF_length (ps : List Int) : ∀ n, (tabF ps n).length = n + 1
  | 0 => rfl
  | n + 1 => by simp [tabF, tabF_length ps n]
theorem rd_left {T : List Int} (S : List Int) {i : Int} (h0 : 0 ≤ i) (h1 : i < T.length) : rd (T ++ S) i = rd T i := by
  show (T ++ S).getD i.toNat _ = T.getD i.toNat _
  rw [List.getD_eq_getElem?_getD, List.getD_eq_getElem?_getD, List.getElem?_append_left (by omega)]
theorem rd_mid (T : List Int) (a : Int) (S : List Int) {i : Int} (h : i = T.length) : rd (T ++ a :: S) i = a := by
  subst h
  exact getD_at_mid _ T a S
theorem rd_map {T : List Int} {i : Int} (h0 : 0 ≤ i) (h1 : i < T.length) : rd (T.map cvF) i = cvF (rd T i) := by
  have hlt : i.toNat < T.length := by omega
  show (T.map cvF).getD i.toNat _ = cvF (T.getD i.toNat _)
  rw [List.getD_eq_getElem?_getD, List.getD_eq_getElem?_getD, List.getElem?_map, List.getElem?_eq_getElem hlt]
  rfl
theorem minE_le (T : List Int) (n : Int) : ∀ (s : List Int) (a : Int), minE T n s a ≤ a
  | [], a => Int.le_refl _
  | p :: s, a => by
    unfold minE
    have := minE_le T n s (if p ≤ n then mn a (rd T (n - p) + 1) else a)
    have : (if p ≤ n then mn a (rd T (n - p) + 1) else a) ≤ a := by unfold mn; split <;> (try split) <;> omega
    omega
theorem minE_ge (T : List Int) (n : Int) (hT : ∀ p, 1 ≤ p → p ≤ n → 0 ≤ rd T (n - p)) : ∀ (s : List Int) (a : Int), (∀ x ∈ s, 1 ≤ x) → 1 ≤ a → 1 ≤ minE T n s a
  | [], a, _, ha => ha
  | p :: s, a, hs, ha => by
    unfold minE
    refine minE_ge T n hT s _ (fun x hx => hs x (by simp [hx])) ?_
    split
    · have := hT p (hs p (by simp)) (by assumption)
      unfold mn
      split <;> omega
    · exact ha
theorem minE_mem (T : List Int) (n : Int) : ∀ (s : List Int) (a : Int), minE T n s a = a ∨ ∃ p ∈ s, p ≤ n ∧ minE T n s a = rd T (n - p) + 1
  | [], a => Or.inl rfl
  | p :: s, a => by
    unfold minE
    by_cases hp : p ≤ n
    · simp only [if_pos hp]
      rcases minE_mem T n s (mn a (rd T (n - p) + 1)) with h | ⟨q, hq, h1, h2⟩
      · rw [h]
        unfold mn
        split
        · exact Or.inr ⟨p, by simp, hp, rfl⟩
        · exact Or.inl rfl
      · exact Or.inr ⟨q, by simp [hq], h1, h2⟩
    · simp only [if_neg hp]
      rcases minE_mem T n s a with h | ⟨q, hq, h1, h2⟩
      · exact Or.inl h
      · exact Or.inr ⟨q, by simp [hq], h1, h2⟩
theorem tab_at (ps : List Int) : ∀ (m n : Nat), n ≤ m → rd (tabF ps m) (n : Int) = valF ps n
  | 0, n, h => by
    have : n = 0 := by omega
    subst this
    rfl
  | m + 1, n, h => by
    by_cases e : n = m + 1
    · rw [e]; rfl
    · unfold tabF
      rw [rd_left _ (by omega) (by rw [tabF_length]; omega)]
      exact tab_at ps m n (by omega)
theorem val_succ (ps : List Int) (n : Nat) : valF ps (n + 1) = minE (tabF ps n) (n + 1 : Nat) ps 31 := by
  unfold valF
  show rd (tabF ps n ++ [_]) _ = _
  exact rd_mid _ _ [] (by rw [tabF_length])
theorem val_rng (ps : List Int) (hp : ∀ x ∈ ps, 1 ≤ x) : ∀ (n : Nat), 0 ≤ valF ps n ∧ valF ps n ≤ 31 ∧ (1 ≤ n → 1 ≤ valF ps n) := by
  intro n
  induction n using Nat.strongRecOn with
  | _ n ih =>
    cases n with
    | zero =>
      have e : valF ps 0 = 0 := rfl
      rw [e]
      exact ⟨by decide, by decide, fun h => by omega⟩
    | succ n =>
      rw [val_succ]
      have h1 := minE_le (tabF ps n) (n + 1 : Nat) ps 31
      have h2 := minE_ge (tabF ps n) (n + 1 : Nat) (fun p p0 p1 => by
        have e : ((n + 1 : Nat) : Int) - p = ((n + 1 - p.toNat : Nat) : Int) := by omega
        rw [e, tab_at ps n _ (by omega)]
        exact (ih _ (by omega)).1) ps 31 hp (by decide)
      exact ⟨by omega, h1, fun _ => h2⟩
theorem tab_rng (ps : List Int) (hp : ∀ x ∈ ps, 1 ≤ x) (m : Nat) {i : Int} (h0 : 0 ≤ i) (h1 : i ≤ m) : 0 ≤ rd (tabF ps m) i ∧ rd (tabF ps m) i ≤ 31 := by
  have e : i = (i.toNat : Int) := by omega
  rw [e, tab_at ps m _ (by omega)]
  exact ⟨(val_rng ps hp _).1, (val_rng ps hp _).2.1⟩
theorem impl_few_l1 (ps : List Int) (hp : ∀ x ∈ ps, 1 ≤ x) (hpl : ps.length ≤ 8) (T Z : List Int) (n : Nat) (hT : T.length = n) (hn : n ≤ 20000) (hr : ∀ i : Int, 0 ≤ i → i < n → 0 ≤ rd T i ∧ rd T i ≤ 31) : ∀ (s : List Int) (i a : Int), 0 ≤ i → ps.drop i.toNat = s → ∀ r, Ev (fun k => impl_fewestPieces.l0 k ps (T ++ minE T n s a :: Z) (n + 1 : Nat)) r → Ev (fun k => impl_fewestPieces.l1 k ps (T ++ a :: Z) n ps ps.length i) r
  | [], i, a, h0, h, r, hk => by
    refine Ev_shift ?_
    simp only [impl_fewestPieces.l1, if_neg (drop_nil h0 h), w64 (n := (n : Int) + 1) (by omega)]
    exact hk
  | p :: s, i, a, h0, h, r, hk => by
    refine Ev_shift ?_
    obtain ⟨h1, h2, h3⟩ := drop_cons 0 h0 h
    have h2' : rd ps i = p := h2
    have hlt : (n : Int) < ((T ++ a :: Z).length : Int) := by simp; omega
    have hp1 : 1 ≤ p := by
      have := List.mem_of_mem_drop (show p ∈ ps.drop i.toNat by rw [h]; simp)
      exact hp p this
    have e : rd (T ++ a :: Z) (n : Int) = a := rd_mid T a Z (by omega)
    have se (v : Int) : (T ++ a :: Z).set ((n : Int)).toNat v = T ++ v :: Z := by rw [← hT]; exact set_at_mid T a v Z
    simp only [impl_fewestPieces.l1, if_pos h1, if_pos h0, h2', w64 (n := i + 1) (by omega)]
    by_cases hc : p ≤ n
    · have e2 : rd (T ++ a :: Z) ((n : Int) - p) = rd T (n - p) := rd_left _ (by omega) (by omega)
      have hb := hr (n - p) (by omega) (by omega)
      simp only [if_pos hc, if_pos (show (0 : Int) ≤ n by omega), if_pos hlt, w64 (n := (n : Int) - p) (by omega), if_pos (show 0 ≤ (n : Int) - p by omega), if_pos (show (n : Int) - p < ((T ++ a :: Z).length : Int) by omega), e, e2, w64 (n := rd T (n - p) + 1) (by omega), se]
      refine impl_few_l1 ps hp hpl T Z n hT hn hr s (i + 1) _ (by omega) h3 r ?_
      simp only [minE, if_pos hc] at hk
      exact hk
    · simp only [if_neg hc]
      refine impl_few_l1 ps hp hpl T Z n hT hn hr s (i + 1) a (by omega) h3 r ?_
      simp only [minE, if_neg hc] at hk
      exact hk
theorem impl_few_l0 (ps : List Int) (hp : ∀ x ∈ ps, 1 ≤ x) (hpl : ps.length ≤ 8) : ∀ (d n : Nat), n + d = 20000 → Ev (fun k => impl_fewestPieces.l0 k ps (tabF ps n ++ List.replicate d 0) (n + 1 : Nat)) (tabF ps (n + d))
  | 0, n, h => by
    refine Ev_shift ?_
    simp only [impl_fewestPieces.l0, if_neg (show ¬ ((n + 1 : Nat) : Int) ≤ 20000 by omega), List.replicate_zero, List.append_nil]
    exact Ev.now _
  | d + 1, n, h => by
    refine Ev_shift ?_
    have hl := tabF_length ps n
    have se : (tabF ps n ++ 0 :: List.replicate d 0).set (((n + 1 : Nat) : Int)).toNat 31 = tabF ps n ++ 31 :: List.replicate d 0 := by rw [← hl]; exact set_at_mid _ _ _ _
    simp only [impl_fewestPieces.l0, List.replicate_succ, if_pos (show ((n + 1 : Nat) : Int) ≤ 20000 by omega), if_pos (show (0 : Int) ≤ (n + 1 : Nat) by omega), if_pos (show ((n + 1 : Nat) : Int) < ((tabF ps n ++ 0 :: List.replicate d 0).length : Int) by simp only [List.length_append, hl, List.length_cons]; omega), se]
    refine impl_few_l1 ps hp hpl (tabF ps n) _ (n + 1) hl (by omega) (fun i h0 h1 => tab_rng ps hp n h0 (by omega)) ps 0 31 (by omega) rfl _ ?_
    have := impl_few_l0 ps hp hpl d (n + 1) (by omega)
    rw [show n + 1 + d = n + (d + 1) by omega] at this
    simpa only [tabF, List.append_assoc, List.singleton_append] using this
theorem impl_fewest_ev (ps : List Int) (hp : PPc ps) (N : Nat) (hN : N = 20000) : Ev (fun k => impl_fewestPieces.f k ps) (tabF ps N) := by
  subst hN
  unfold impl_fewestPieces.f
  simp only [if_pos (show 20001 ≤ 35184372088832 by decide)]
  have e : List.replicate 20001 (0 : Int) = tabF ps 0 ++ List.replicate 20000 0 := List.replicate_succ
  have := impl_few_l0 ps (fun x hx => (hp.2.2.1 x hx).1) hp.2.1 20000 0 rfl
  rw [← e, Nat.zero_add] at this
  exact this
theorem spec_few_l1 (ps : List Int) (hp : ∀ x ∈ ps, 1 ≤ x) (hpl : ps.length ≤ 8) (T Z : List Int) (n : Nat) (hT : T.length = n) (hn : n ≤ 20000) (hr : ∀ i : Int, 0 ≤ i → i < n → 0 ≤ rd T i ∧ rd T i ≤ 31) : ∀ (s : List Int) (i a : Int), 0 ≤ i → 1 ≤ a → a ≤ 31 → ps.drop i.toNat = s → ∀ r, Ev (fun k => spec_l11Fewest.l0 k ps (T.map cvF ++ cvF (minE T n s a) :: Z) (n + 1 : Nat)) r → Ev (fun k => spec_l11Fewest.l1 k ps (T.map cvF ++ cvF a :: Z) n i) r
  | [], i, a, h0, a0, a1, h, r, hk => by
    refine Ev_shift ?_
    simp only [spec_l11Fewest.l1, if_neg (drop_nil h0 h), w64 (n := (n : Int) + 1) (by omega)]
    exact hk
  | p :: s, i, a, h0, a0, a1, h, r, hk => by
    refine Ev_shift ?_
    obtain ⟨h1, h2, h3⟩ := drop_cons 0 h0 h
    have h2' : rd ps i = p := h2
    have hTm : (T.map cvF).length = n := by simp [hT]
    have hlt : (n : Int) < ((T.map cvF ++ cvF a :: Z).length : Int) := by simp; omega
    have hp1 : 1 ≤ p := by
      have := List.mem_of_mem_drop (show p ∈ ps.drop i.toNat by rw [h]; simp)
      exact hp p this
    have e : rd (T.map cvF ++ cvF a :: Z) (n : Int) = cvF a := rd_mid _ _ Z (by omega)
    have se (v : Int) : (T.map cvF ++ cvF a :: Z).set ((n : Int)).toNat v = T.map cvF ++ v :: Z := by
      have := set_at_mid (T.map cvF) (cvF a) v Z
      rw [hTm] at this
      exact this
    have go (b : Int) (b0 : 1 ≤ b) (b1 : b ≤ 31) (hb : minE T n (p :: s) a = minE T n s b) : Ev (fun k => spec_l11Fewest.l1 k ps (T.map cvF ++ cvF b :: Z) n (i + 1)) r := by
      refine spec_few_l1 ps hp hpl T Z n hT hn hr s (i + 1) b (by omega) b0 b1 h3 r ?_
      rw [← hb]
      exact hk
    have skip (h : minE T n (p :: s) a = minE T n s a) : Ev (fun k => spec_l11Fewest.j2 k ps (T.map cvF ++ cvF a :: Z) n i p true) r := by
      refine Ev_shift ?_
      simp only [spec_l11Fewest.j2, if_true, w64 (n := i + 1) (by omega)]
      exact go a a0 a1 h
    simp only [spec_l11Fewest.l1, if_pos h1, if_pos h0, h2', w64 (n := i + 1) (by omega)]
    by_cases hc : p > n
    · simp only [if_pos hc]
      exact skip (by simp only [minE, if_neg (show ¬ p ≤ n by omega)])
    · have e2 : rd (T.map cvF ++ cvF a :: Z) ((n : Int) - p) = cvF (rd T (n - p)) := by rw [rd_left _ (by omega) (by omega), rd_map (by omega) (by omega)]
      have hb := hr (n - p) (by omega) (by omega)
      have g1 : 0 ≤ (n : Int) - p := by omega
      have g2 : (n : Int) - p < ((T.map cvF ++ cvF a :: Z).length : Int) := by omega
      simp only [if_neg hc, w64 (n := (n : Int) - p) (by omega), if_pos g1, if_pos g2, e2]
      by_cases c1 : rd T (n - p) ≤ 30
      · have cva : cvF (rd T (n - p)) = rd T (n - p) := if_pos c1
        simp only [cva, if_neg (show ¬ rd T (n - p) < 0 by omega)]
        by_cases c2 : rd T (n - p) = 30
        · simp only [c2, beq_self_eq_true]
          refine skip ?_
          simp only [minE, if_pos (show p ≤ n by omega), c2]
          congr 1
          unfold mn
          split <;> omega
        · have cv1 : cvF (rd T (n - p) + 1) = rd T (n - p) + 1 := if_pos (by omega)
          rw [show (rd T (n - p) == 30) = false from beq_eq_false_iff_ne.2 c2]
          refine Ev_shift ?_
          simp only [spec_l11Fewest.j2, Bool.false_eq_true, if_false, if_pos (show (0 : Int) ≤ n by omega), if_pos hlt, e, w64 (n := (n : Int) - p) (by omega), if_pos g1, if_pos g2, e2, cva, w64 (n := rd T (n - p) + 1) (by omega), w64 (n := i + 1) (by omega), se]
          have up : minE T n (p :: s) a = minE T n s (rd T (n - p) + 1) → Ev (fun k => spec_l11Fewest.l1 k ps (T.map cvF ++ (rd T (n - p) + 1) :: Z) n (i + 1)) r := fun h => by
            have := go (rd T (n - p) + 1) (by omega) (by omega) h
            rw [cv1] at this
            exact this
          by_cases c3 : a ≤ 30
          · have ca : cvF a = a := if_pos c3
            simp only [ca, if_neg (show ¬ a < 0 by omega)]
            by_cases c4 : rd T (n - p) + 1 < a
            · simp only [if_pos c4]
              refine up ?_
              simp only [minE, if_pos (show p ≤ n by omega)]
              congr 1
              unfold mn
              rw [if_pos c4]
            · simp only [if_neg c4]
              have := go a a0 a1 (by
                simp only [minE, if_pos (show p ≤ n by omega)]
                congr 1
                unfold mn
                rw [if_neg c4])
              rw [ca] at this
              exact this
          · have ca : cvF a = -1 := if_neg c3
            simp only [ca, if_pos (show (-1 : Int) < 0 by decide)]
            refine up ?_
            simp only [minE, if_pos (show p ≤ n by omega)]
            congr 1
            unfold mn
            rw [if_pos (by omega)]
      · rw [show cvF (rd T (n - p)) = -1 from if_neg c1]
        simp only [if_pos (show (-1 : Int) < 0 by decide)]
        refine skip ?_
        simp only [minE, if_pos (show p ≤ n by omega)]
        congr 1
        unfold mn
        rw [if_neg (by omega)]
theorem spec_few_l0 (ps : List Int) (hp : ∀ x ∈ ps, 1 ≤ x) (hpl : ps.length ≤ 8) : ∀ (d n : Nat), n + d = 20000 → Ev (fun k => spec_l11Fewest.l0 k ps ((tabF ps n).map cvF ++ List.replicate d 0) (n + 1 : Nat)) ((tabF ps (n + d)).map cvF)
  | 0, n, h => by
    refine Ev_shift ?_
    simp only [spec_l11Fewest.l0, if_neg (show ¬ ((n + 1 : Nat) : Int) ≤ 20000 by omega), List.replicate_zero, List.append_nil]
    exact Ev.now _
  | d + 1, n, h => by
    refine Ev_shift ?_
    have hl : ((tabF ps n).map cvF).length = n + 1 := by rw [List.length_map, tabF_length]
    have se : ((tabF ps n).map cvF ++ 0 :: List.replicate d 0).set (((n + 1 : Nat) : Int)).toNat (-1) = (tabF ps n).map cvF ++ (-1) :: List.replicate d 0 := by
      have := set_at_mid ((tabF ps n).map cvF) 0 (-1) (List.replicate d 0)
      rw [hl] at this
      exact this
    simp only [spec_l11Fewest.l0, List.replicate_succ, if_pos (show ((n + 1 : Nat) : Int) ≤ 20000 by omega), if_pos (show (0 : Int) ≤ (n + 1 : Nat) by omega), if_pos (show ((n + 1 : Nat) : Int) < (((tabF ps n).map cvF ++ 0 :: List.replicate d 0).length : Int) by simp only [List.length_append, hl, List.length_cons]; omega), se]
    refine spec_few_l1 ps hp hpl (tabF ps n) _ (n + 1) (tabF_length ps n) (by omega) (fun i h0 h1 => tab_rng ps hp n h0 (by omega)) ps 0 31 (by omega) (by decide) (by decide) rfl _ ?_
    have := spec_few_l0 ps hp hpl d (n + 1) (by omega)
    rw [show n + 1 + d = n + (d + 1) by omega] at this
    simpa only [tabF, List.map_append, List.map_cons, List.map_nil, List.append_assoc, List.singleton_append] using this
theorem spec_fewest_ev (ps : List Int) (hp : PPc ps) (N : Nat) (hN : N = 20000) : Ev (fun k => spec_l11Fewest.f k ps) ((tabF ps N).map cvF) := by
  subst hN
  unfold spec_l11Fewest.f
  simp only [if_pos (show 20001 ≤ 35184372088832 by decide)]
  have e : List.replicate 20001 (0 : Int) = (tabF ps 0).map cvF ++ List.replicate 20000 0 := List.replicate_succ
  have := spec_few_l0 ps (fun x hx => (hp.2.2.1 x hx).1) hp.2.1 20000 0 rfl
  rw [← e, Nat.zero_add] at this
  exact this
/-- A total that can be made has a piece that leaves one with one piece less. -/
theorem mix_step (ps : List Int) (hp : PPc ps) (N : Nat) (n : Int) (h0 : 0 < n) (h1 : n ≤ N) (hv : rd (tabF ps N) n ≤ 30) : ∃ p ∈ ps, p ≤ n ∧ rd (tabF ps N) (n - p) = rd (tabF ps N) n - 1 := by
  obtain ⟨m, rfl⟩ : ∃ m : Nat, n = ((m + 1 : Nat) : Int) := ⟨n.toNat - 1, by omega⟩
  rw [tab_at ps N _ (by omega), val_succ] at hv ⊢
  rcases minE_mem (tabF ps m) (m + 1 : Nat) ps 31 with h | ⟨p, hm, hle, h⟩
  · omega
  · have hp1 := (hp.2.2.1 p hm).1
    have e : ((m + 1 : Nat) : Int) - p = ((m + 1 - p.toNat : Nat) : Int) := by omega
    refine ⟨p, hm, hle, ?_⟩
    rw [h, e, tab_at ps N _ (by omega), tab_at ps m _ (by omega)]
    omega
theorem drawP_l0 (c : List Int) : ∀ (d : Nat) (out : List Int) (x a s : Int), Src c a s → 1 ≤ out.length + d → out.length + d ≤ 4 → ∃ l a' s', Ev (fun k => spec_l11Pieces.l0 k out x d c a s) (l, a', s') ∧ Src c a' s' ∧ 1 ≤ l.length ∧ l.length ≤ 10
  | 0, out, x, a, s, h, h1, h4 => by
    obtain ⟨v, a1, s1, e1, g1, v0, v1⟩ := next_some h 24 (by omega)
    by_cases c0 : v = 0
    · obtain ⟨p, a2, s2, e2, g2, _⟩ := pick_some g1 [0, 1, 10000, 10001] (by simp) (by simp)
      refine ⟨[p], a2, s2, Ev_shift ?_, g2, by simp, by simp⟩
      simp only [spec_l11Pieces.l0, if_neg (show ¬ ((0 : Nat) : Int) > 0 by decide), e1, Option.bind_some, if_pos c0, e2]
      exact Ev.now _
    · by_cases c1 : v = 1
      · obtain ⟨u, a2, s2, e2, g2, u0, u1⟩ := next_some g1 2 (by omega)
        have hlen : (([1, 2, 3, 4, 5, 6, 7, 8, 9] : List Int).length : Int) = 9 := rfl
        refine ⟨([1, 2, 3, 4, 5, 6, 7, 8, 9] : List Int).take (8 + u).toNat, a2, s2, Ev_shift ?_, g2, by rw [List.length_take]; have : ([1, 2, 3, 4, 5, 6, 7, 8, 9] : List Int).length = 9 := rfl; omega, by rw [List.length_take]; have : ([1, 2, 3, 4, 5, 6, 7, 8, 9] : List Int).length = 9 := rfl; omega⟩
        simp only [spec_l11Pieces.l0, if_neg (show ¬ ((0 : Nat) : Int) > 0 by decide), e1, Option.bind_some, if_neg c0, if_pos c1, e2, w64 (n := 8 + u) (by omega), if_pos (show 0 ≤ 8 + u by omega), hlen, if_pos (show 8 + u ≤ 9 by omega)]
        exact Ev.now _
      · by_cases c2 : v = 2
        · refine ⟨out ++ [rd out 0], a1, s1, Ev_shift ?_, g1, by simp, by simp; omega⟩
          simp only [spec_l11Pieces.l0, if_neg (show ¬ ((0 : Nat) : Int) > 0 by decide), e1, Option.bind_some, if_neg c0, if_neg c1, if_pos c2, if_pos (show 0 < (out.length : Int) by omega), if_pos (show out.length < 17592186044416 by omega)]
          exact Ev.now _
        · refine ⟨out, a1, s1, Ev_shift ?_, g1, by omega, by omega⟩
          simp only [spec_l11Pieces.l0, if_neg (show ¬ ((0 : Nat) : Int) > 0 by decide), e1, Option.bind_some, if_neg c0, if_neg c1, if_neg c2]
          exact Ev.now _
  | d + 1, out, x, a, s, h, h1, h4 => by
    obtain ⟨v, a1, s1, e1, g1, v0, v1⟩ := next_some h 700 (by omega)
    obtain ⟨p, a2, s2, e2, g2, _⟩ := pick_some g1 [100, 250, wrap64 (1 + v), 500] (by simp) (by simp)
    obtain ⟨l, a', s', e, g, hl⟩ := drawP_l0 c d (out ++ [x]) (wrap64 (x + p)) a2 s2 g2 (by simp; omega) (by simp; omega)
    refine ⟨l, a', s', Ev_shift ?_, g, hl⟩
    simp only [spec_l11Pieces.l0, if_pos (show ((d + 1 : Nat) : Int) > 0 by omega), if_pos (show out.length < 17592186044416 by omega), e1, Option.bind_some, e2, w64 (n := ((d + 1 : Nat) : Int) - 1) (by omega), show ((d + 1 : Nat) : Int) - 1 = (d : Int) by omega, w64 (n := (d : Int)) (by omega)]
    exact e
theorem drawP_ev {c : List Int} {a s : Int} (h : Src c a s) : ∃ l a' s', Ev (fun k => spec_l11Pieces.f k c a s) (l, a', s') ∧ Src c a' s' ∧ 1 ≤ l.length ∧ l.length ≤ 10 := by
  obtain ⟨v, a1, s1, e1, g1, v0, v1⟩ := next_some h 500 (by omega)
  obtain ⟨p, a2, s2, e2, g2, _⟩ := pick_some g1 [100, 250, wrap64 (1 + v), 500] (by simp) (by simp)
  obtain ⟨u, a3, s3, e3, g3, u0, u1⟩ := next_some g2 4 (by omega)
  obtain ⟨l, a', s', e, g, hl⟩ := drawP_l0 c (1 + u).toNat [] p a3 s3 g3 (by simp; omega) (by simp; omega)
  rw [show (((1 + u).toNat : Nat) : Int) = 1 + u by omega] at e
  refine ⟨l, a', s', ?_, g, hl⟩
  unfold spec_l11Pieces.f
  simp only [e1, Option.bind_some, e2, e3, w64 (n := 1 + u) (by omega)]
  exact e
theorem asc_le {ps : List Int} (hp : PPc ps) {i : Int} (i0 : 0 ≤ i) : ∀ {j : Int}, i ≤ j → j < ps.length → rd ps i ≤ rd ps j := by
  intro j hij hj
  obtain ⟨d, rfl⟩ : ∃ d : Nat, j = i + d := ⟨(j - i).toNat, by omega⟩
  clear hij
  induction d with
  | zero => simp
  | succ d ih =>
    have h1 := ih (by omega)
    have h2 := hp.2.2.2 (i + ((d + 1 : Nat) : Int)) (by omega) hj
    rw [show i + ((d + 1 : Nat) : Int) - 1 = i + (d : Int) by omega] at h2
    omega
theorem mix_scan2 (N : Nat) (hN : N = 20000) (ps : List Int) (hp : PPc ps) (n : Int) (h0 : 0 < n) (h1 : n ≤ N) (hv : rd (tabF ps N) n ≤ 30) (out : List Int) (ho : out.length ≤ 100) :
    ∀ (s : List Int) (i : Int), 0 ≤ i → ps.drop i.toNat = s → (∃ p ∈ s, p ≤ n ∧ rd (tabF ps N) (n - p) = rd (tabF ps N) n - 1) → (∀ j : Int, 0 ≤ j → j < i → ¬ (rd ps j ≤ n ∧ rd (tabF ps N) (n - rd ps j) = rd (tabF ps N) n - 1)) →
      ∃ p ∈ ps, p ≤ n ∧ rd (tabF ps N) (n - p) = rd (tabF ps N) n - 1 ∧ (∀ q ∈ ps, q < p → ¬ (q ≤ n ∧ rd (tabF ps N) (n - q) = rd (tabF ps N) n - 1)) ∧ ∀ r : List Int × Int,
        (Ev (fun k => spec_MixDelays.l0 k ps (n - p) ((tabF ps N).map cvF) (out ++ [p])) r → Ev (fun k => spec_MixDelays.l1 k ps n ((tabF ps N).map cvF) out i) r) ∧
        (Ev (fun k => impl_MixDelays.l0 k ps (n - p) (tabF ps N) (out ++ [p])) r → Ev (fun k => impl_MixDelays.l1 k ps n (tabF ps N) out ps ps.length i) r)
  | [], i, i0, h, hx, hpv => by
    obtain ⟨p, hm, _⟩ := hx
    simp at hm
  | c :: s, i, i0, h, hx, hpv => by
    obtain ⟨g1, g2, g3⟩ := drop_cons 0 i0 h
    have h2' : rd ps i = c := g2
    have hl8 := hp.2.1
    have hcm : c ∈ ps := List.mem_of_mem_drop (show c ∈ ps.drop i.toNat by rw [h]; simp)
    have hc1 := hp.2.2.1 c hcm
    have hb : ((tabF ps N).length : Int) = 20001 := by rw [tabF_length]; omega
    have hbm : (((tabF ps N).map cvF).length : Int) = 20001 := by rw [List.length_map]; exact hb
    have hpos := (val_rng ps (fun x hx => (hp.2.2.1 x hx).1) n.toNat).2.2 (by omega)
    rw [← tab_at ps N n.toNat (by omega), show ((n.toNat : Nat) : Int) = n by omega] at hpos
    have hmn : rd ((tabF ps N).map cvF) n = rd (tabF ps N) n := by rw [rd_map (by omega) (by omega)]; exact if_pos hv
    by_cases hc : c ≤ n ∧ rd (tabF ps N) (n - c) = rd (tabF ps N) n - 1
    · have hmin : ∀ q ∈ ps, q < c → ¬ (q ≤ n ∧ rd (tabF ps N) (n - q) = rd (tabF ps N) n - 1) := fun q hq hlt => by
        obtain ⟨j, j0, j1, rfl⟩ := mem_rd hq
        rcases Int.lt_or_le j i with hji | hji
        · exact hpv j j0 hji
        · have := asc_le hp i0 hji j1
          omega
      refine ⟨c, hcm, hc.1, hc.2, hmin, fun r => ⟨fun hk => ?_, fun hk => ?_⟩⟩
      · have hmc : rd ((tabF ps N).map cvF) (n - c) = rd (tabF ps N) n - 1 := by rw [rd_map (by omega) (by omega), hc.2]; exact if_pos (by omega)
        refine Ev_shift ?_
        simp only [spec_MixDelays.l1, if_pos i0, if_pos g1, h2', if_neg (show ¬ c > n by omega), w64 (n := n - c) (by omega), if_pos (show 0 ≤ n - c by omega), hbm, if_pos (show n - c < 20001 by omega), if_pos (show 0 ≤ n by omega), if_pos (show n < 20001 by omega), hmc, hmn, w64 (n := rd (tabF ps N) n - 1) (by omega), if_true, if_pos (show out.length < 17592186044416 by omega)]
        exact hk
      · refine Ev_shift ?_
        simp only [impl_MixDelays.l1, if_pos i0, if_pos g1, h2', if_pos hc.1, w64 (n := n - c) (by omega), if_pos (show 0 ≤ n - c by omega), hb, if_pos (show n - c < 20001 by omega), if_pos (show 0 ≤ n by omega), if_pos (show n < 20001 by omega), hc.2, w64 (n := rd (tabF ps N) n - 1) (by omega), if_true, if_pos (show out.length < 17592186044416 by omega)]
        exact hk
    · have hx' : ∃ p ∈ s, p ≤ n ∧ rd (tabF ps N) (n - p) = rd (tabF ps N) n - 1 := by
        obtain ⟨p, hm, hq⟩ := hx
        rcases List.mem_cons.1 hm with rfl | hm
        · exact absurd hq hc
        · exact ⟨p, hm, hq⟩
      obtain ⟨p, pm, p1, p2, pmin, pk⟩ := mix_scan2 N hN ps hp n h0 h1 hv out ho s (i + 1) (by omega) g3 hx' (fun j j0 j1 => by
        by_cases e : j = i
        · rw [e, h2']
          exact hc
        · exact hpv j j0 (by omega))
      refine ⟨p, pm, p1, p2, pmin, fun r => ⟨fun hk => ?_, fun hk => ?_⟩⟩
      · have := (pk r).1 hk
        refine Ev_shift ?_
        by_cases hcn : c > n
        · simp only [spec_MixDelays.l1, if_pos i0, if_pos g1, h2', if_pos hcn, w64 (n := i + 1) (by omega)]
          exact this
        · have hne : ¬ rd ((tabF ps N).map cvF) (n - c) = rd (tabF ps N) n - 1 := by
            rw [rd_map (by omega) (by omega)]
            intro e
            unfold cvF at e
            split at e
            · exact hc ⟨by omega, e⟩
            · omega
          simp only [spec_MixDelays.l1, if_pos i0, if_pos g1, h2', if_neg hcn, w64 (n := n - c) (by omega), if_pos (show 0 ≤ n - c by omega), hbm, if_pos (show n - c < 20001 by omega), if_pos (show 0 ≤ n by omega), if_pos (show n < 20001 by omega), hmn, w64 (n := rd (tabF ps N) n - 1) (by omega), if_neg hne, w64 (n := i + 1) (by omega)]
          exact this
      · have := (pk r).2 hk
        refine Ev_shift ?_
        by_cases hcn : c ≤ n
        · simp only [impl_MixDelays.l1, if_pos i0, if_pos g1, h2', if_pos hcn, w64 (n := n - c) (by omega), if_pos (show 0 ≤ n - c by omega), hb, if_pos (show n - c < 20001 by omega), if_pos (show 0 ≤ n by omega), if_pos (show n < 20001 by omega), w64 (n := rd (tabF ps N) n - 1) (by omega), if_neg (show ¬ rd (tabF ps N) (n - c) = rd (tabF ps N) n - 1 from fun e => hc ⟨hcn, e⟩), w64 (n := i + 1) (by omega)]
          exact this
        · simp only [impl_MixDelays.l1, if_pos i0, if_pos g1, h2', if_neg hcn, w64 (n := i + 1) (by omega)]
          exact this
theorem minE_le_mem (T : List Int) (n : Int) : ∀ (s : List Int) (a p : Int), p ∈ s → p ≤ n → minE T n s a ≤ rd T (n - p) + 1
  | [], a, p, h, _ => by simp at h
  | q :: s, a, p, h, hn => by
    unfold minE
    rcases List.mem_cons.1 h with rfl | h
    · rw [if_pos hn]
      have := minE_le T n s (mn a (rd T (n - p) + 1))
      have : mn a (rd T (n - p) + 1) ≤ rd T (n - p) + 1 := by unfold mn; split <;> omega
      omega
    · exact minE_le_mem T n s _ p h hn
theorem tab_le (ps : List Int) (hp : PPc ps) (N : Nat) (n p : Int) (h1 : n ≤ N) (hm : p ∈ ps) (hn : p ≤ n) : rd (tabF ps N) n ≤ rd (tabF ps N) (n - p) + 1 := by
  have hp1 := (hp.2.2.1 p hm).1
  obtain ⟨m, rfl⟩ : ∃ m : Nat, n = ((m + 1 : Nat) : Int) := ⟨n.toNat - 1, by omega⟩
  have e : ((m + 1 : Nat) : Int) - p = ((m + 1 - p.toNat : Nat) : Int) := by omega
  have := minE_le_mem (tabF ps m) (m + 1 : Nat) ps 31 p hm hn
  rw [e, tab_at ps m _ (by omega)] at this
  rw [tab_at ps N _ (by omega), val_succ, e, tab_at ps N _ (by omega)]
  exact this
def ascL : List Int → Prop
  | [] => True
  | [_] => True
  | a :: b :: s => a ≤ b ∧ ascL (b :: s)
def sumQ : List Int → Int
  | [] => 0
  | a :: s => a + sumQ s
theorem mix2_ev (N : Nat) (hN : N = 20000) (ps : List Int) (hp : PPc ps) : ∀ (d : Nat) (n : Int) (out : List Int), n = d → n ≤ N → rd (tabF ps N) n ≤ 30 → out.length + rd (tabF ps N) n ≤ 30 →
    ∃ tl : List Int, (tl.length : Int) = rd (tabF ps N) n ∧ sumQ tl = n ∧ (∀ y ∈ tl, y ∈ ps) ∧ ascL tl ∧ (∀ y s, tl = y :: s → y ≤ n ∧ rd (tabF ps N) (n - y) = rd (tabF ps N) n - 1) ∧ Ev (fun k => spec_MixDelays.l0 k ps n ((tabF ps N).map cvF) out) (out ++ tl, 0) ∧ Ev (fun k => impl_MixDelays.l0 k ps n (tabF ps N) out) (out ++ tl, 0) := by
  intro d
  induction d using Nat.strongRecOn with
  | _ d ih =>
    intro n out hd hn hv ho
    have hb := tab_rng ps (fun x hx => (hp.2.2.1 x hx).1) N (i := n) (by omega) hn
    by_cases hz : n > 0
    · obtain ⟨p, pm, p1, p2, pmin, pk⟩ := mix_scan2 N hN ps hp n hz hn hv out (by omega) ps 0 (by omega) rfl (mix_step ps hp N n hz hn hv) (fun j j0 j1 => by omega)
      have hp1 := (hp.2.2.1 p pm).1
      obtain ⟨tl, t1, t2, t3, t4, t5, e1, e2⟩ := ih (n - p).toNat (by omega) (n - p) (out ++ [p]) (by omega) (by omega) (by omega) (by simp; omega)
      refine ⟨p :: tl, by simp; omega, by simp only [sumQ]; omega, fun y hy => ?_, ?_, fun y s e => ?_, ?_, ?_⟩
      · rcases List.mem_cons.1 hy with rfl | hy
        · exact pm
        · exact t3 y hy
      · cases tl with
        | nil => trivial
        | cons y s =>
          refine ⟨?_, t4⟩
          have hy := t5 y s rfl
          have ym := t3 y (by simp)
          have hy1 := (hp.2.2.1 y ym).1
          rcases Int.lt_or_le y p with hlt | hle
          · have b1 := tab_le ps hp N n y hn ym (by omega)
            have b2 := tab_le ps hp N (n - y) p (by omega) pm (by omega)
            rw [show n - y - p = n - p - y by omega] at b2
            exact absurd ⟨by omega, by omega⟩ (pmin y ym hlt)
          · exact hle
      · injection e with e1 e2
        subst e1
        exact ⟨p1, p2⟩
      · refine Ev_shift ?_
        simp only [spec_MixDelays.l0, if_pos hz]
        refine (pk _).1 ?_
        simpa using e1
      · refine Ev_shift ?_
        simp only [impl_MixDelays.l0, if_pos hz]
        refine (pk _).2 ?_
        simpa using e2
    · have e : n = 0 := by omega
      subst e
      have h0 : rd (tabF ps N) 0 = 0 := tab_at ps N 0 (by omega)
      refine ⟨[], by rw [h0]; rfl, rfl, fun y hy => by simp at hy, trivial, fun y s e => by simp at e, ?_, ?_⟩
      · refine Ev_shift ?_
        simp only [spec_MixDelays.l0, if_neg hz, List.append_nil]
        exact Ev.now _
      · refine Ev_shift ?_
        simp only [impl_MixDelays.l0, if_neg hz, List.append_nil]
        exact Ev.now _
theorem mixfull_ev (N : Nat) (hN : N = 20000) (m0 : List Int) (a1 : Int) (hn0 : m0.length ≤ 1000000) : ∃ (m : List Int) (c : Int), Ev (fun k => spec_MixDelays.f k m0 a1) (m, c) ∧ Ev (fun k => impl_MixDelays.f k m0 a1) (m, c) ∧ m.length ≤ 30 ∧ (c = 1 ↔ ¬ PPc m0) ∧
    (c = 0 → PPc m0 ∧ (0 ≤ a1 ∧ a1 ≤ 20000) ∧ rd (tabF m0 N) a1 ≤ 30 ∧ (m.length : Int) = rd (tabF m0 N) a1 ∧ sumQ m = a1 ∧ (∀ y ∈ m, y ∈ m0) ∧ ascL m) ∧ (PPc m0 → 0 ≤ a1 → a1 ≤ 20000 → (rd (tabF m0 N) a1 ≤ 30 → c = 0) ∧ (rd (tabF m0 N) a1 > 30 → c = 4)) := by
  have hs := spec_ArePieces_ev m0 (by omega)
  have hi := impl_ArePieces_ev m0 (by omega)
  by_cases h : PPc m0
  · rw [tt_pos h] at hs hi
    have hb : ((tabF m0 N).length : Int) = 20001 := by rw [tabF_length]; omega
    have hbm : (((tabF m0 N).map cvF).length : Int) = 20001 := by rw [List.length_map]; exact hb
    by_cases ha : 0 ≤ a1 ∧ a1 ≤ 20000
    · have sc : ∀ q, Ev (fun k => (spec_l11Fewest.f k m0).bind fun t141 => (if 0 ≤ a1 then (if a1 < (t141.length : Int) then (if (rd t141 a1) < 0 then (some (([] : List Int), 4)) else (spec_MixDelays.l0 k m0 a1 t141 (([] : List Int)))) else (none)) else (none))) q → Ev (fun k => spec_MixDelays.f k m0 a1) q := fun q hq => by
        unfold spec_MixDelays.f spec_l11Code.f
        refine Ev.bind (a := (0 : Int)) ?_ ?_
        · refine Ev.bind hs ?_
          simp only [if_true, l01In_eq, Option.bind_some, decide_eq_true_eq, if_pos ha]
          exact Ev.now _
        · simp only [if_true]
          exact hq
      have ic : ∀ q, Ev (fun k => (impl_fewestPieces.f k m0).bind fun t173 => (if 0 ≤ a1 then (if a1 < (t173.length : Int) then (if (rd t173 a1) > 30 then (some (([] : List Int), 4)) else (impl_MixDelays.l0 k m0 a1 t173 ([] : List Int))) else (none)) else (none))) q → Ev (fun k => impl_MixDelays.f k m0 a1) q := fun q hq => by
        unfold impl_MixDelays.f
        refine Ev.bind hi ?_
        simp only [if_true, impl_isDelay.f, within_eq, Option.bind_some, decide_eq_true_eq, if_pos ha]
        exact hq
      have hmv : rd ((tabF m0 N).map cvF) a1 = cvF (rd (tabF m0 N) a1) := rd_map (by omega) (by omega)
      have hrg := tab_rng m0 (fun x hx => (h.2.2.1 x hx).1) N (i := a1) (by omega) (by omega)
      by_cases hv : rd (tabF m0 N) a1 > 30
      · refine ⟨[], 4, sc _ ?_, ic _ ?_, by simp, ⟨fun e => by omega, fun e => absurd h e⟩, fun e => by omega, fun _ _ _ => ⟨fun e => by omega, fun _ => rfl⟩⟩
        · refine Ev.bind (spec_fewest_ev m0 h N hN) ?_
          simp only [if_pos ha.1, hbm, if_pos (show a1 < 20001 by omega), hmv, show cvF (rd (tabF m0 N) a1) = -1 from if_neg (by omega), if_pos (show (-1 : Int) < 0 by decide)]
          exact Ev.now _
        · refine Ev.bind (impl_fewest_ev m0 h N hN) ?_
          simp only [if_pos ha.1, hb, if_pos (show a1 < 20001 by omega), if_pos hv]
          exact Ev.now _
      · obtain ⟨tl, t1, t2, t3, t4, _, e1, e2⟩ := mix2_ev N hN m0 h a1.toNat a1 [] (by omega) (by omega) (by omega) (by simp; omega)
        refine ⟨tl, 0, sc _ ?_, ic _ ?_, by omega, ⟨fun e => by omega, fun e => absurd h e⟩, fun _ => ⟨h, ha, by omega, t1, t2, t3, t4⟩, fun _ _ _ => ⟨fun _ => rfl, fun e => by omega⟩⟩
        · refine Ev.bind (spec_fewest_ev m0 h N hN) ?_
          simp only [if_pos ha.1, hbm, if_pos (show a1 < 20001 by omega), hmv, show cvF (rd (tabF m0 N) a1) = rd (tabF m0 N) a1 from if_pos (by omega), if_neg (show ¬ rd (tabF m0 N) a1 < 0 by omega)]
          exact e1
        · refine Ev.bind (impl_fewest_ev m0 h N hN) ?_
          simp only [if_pos ha.1, hb, if_pos (show a1 < 20001 by omega), if_neg hv]
          exact e2
    · refine ⟨[], 2, ?_, ?_, by simp, ⟨fun e => by omega, fun e => absurd h e⟩, fun e => by omega, fun _ h0 h1 => absurd ⟨h0, h1⟩ ha⟩
      · unfold spec_MixDelays.f spec_l11Code.f
        refine Ev.bind (a := (2 : Int)) ?_ ?_
        · refine Ev.bind hs ?_
          simp only [if_true, l01In_eq, Option.bind_some, decide_eq_true_eq, if_neg ha]
          exact Ev.now _
        · simp only [if_neg (show ¬ (2 : Int) = 0 by decide)]
          exact Ev.now _
      · unfold impl_MixDelays.f
        refine Ev.bind hi ?_
        simp only [if_true, impl_isDelay.f, within_eq, Option.bind_some, decide_eq_true_eq, if_neg ha]
        exact Ev.now _
  · rw [tt_neg h] at hs hi
    refine ⟨[], 1, ?_, ?_, by simp, ⟨fun _ => h, fun _ => rfl⟩, fun e => by omega, fun e => absurd e h⟩
    · unfold spec_MixDelays.f spec_l11Code.f
      refine Ev.bind (a := (1 : Int)) ?_ ?_
      · refine Ev.bind hs ?_
        simp only [Bool.false_eq_true, if_false]
        exact Ev.now _
      · simp only [if_neg (show ¬ (1 : Int) = 0 by decide)]
        exact Ev.now _
    · unfold impl_MixDelays.f
      refine Ev.bind hi ?_
      simp only [Bool.false_eq_true, if_false]
      exact Ev.now _
/-- A total that can be made, such that none that can be made is nearer, and no smaller one as near. -/
def BestN (T : List Int) (x m n : Int) : Prop := (0 ≤ n ∧ n < m ∧ rd T n ≤ 30) ∧ ∀ j : Int, 0 ≤ j → j < m → rd T j ≤ 30 → (if n - x < 0 then -(n - x) else n - x) ≤ (if j - x < 0 then -(j - x) else j - x) ∧ ((if n - x < 0 then -(n - x) else n - x) = (if j - x < 0 then -(j - x) else j - x) → n ≤ j)
theorem BestN_same {T : List Int} {x m a b : Int} (ha : BestN T x m a) (hb : BestN T x m b) : a = b := by
  have h1 := ha.2 b hb.1.1 hb.1.2.1 hb.1.2.2
  have h2 := hb.2 a ha.1.1 ha.1.2.1 ha.1.2.2
  have e := Int.le_antisymm h1.1 h2.1
  have := h1.2 e
  have := h2.2 e.symm
  omega
theorem abs_eq {n : Int} (h : -1000000 ≤ n ∧ n ≤ 1000000) : impl_abs.f n = some (if n < 0 then -n else n) := by
  unfold impl_abs.f
  rw [w64 (by omega)]
  split <;> rfl
theorem impl_near_l0 (N : Nat) (hN : N = 20000) (ps : List Int) (x : Int) (hx : 0 ≤ x ∧ x ≤ 20000) : ∀ (d : Nat) (i n : Int), 0 < i → i + d = 20001 → BestN (tabF ps N) x i n → ∃ r, Ev (fun k => impl_NearestMix.l0 k x n (tabF ps N) (tabF ps N).length i) (r, 0) ∧ BestN (tabF ps N) x 20001 r
  | 0, i, n, h0, hd, hb => by
    have hl : ((tabF ps N).length : Int) = 20001 := by rw [tabF_length]; omega
    refine ⟨n, Ev_shift ?_, by rw [show (20001 : Int) = i by omega]; exact hb⟩
    simp only [impl_NearestMix.l0, hl, if_neg (show ¬ i < 20001 by omega)]
    exact Ev.now _
  | d + 1, i, n, h0, hd, hb => by
    have hl : ((tabF ps N).length : Int) = 20001 := by rw [tabF_length]; omega
    have hn := hb.1
    by_cases c : rd (tabF ps N) i ≤ 30
    · by_cases c2 : (if i - x < 0 then -(i - x) else i - x) < (if n - x < 0 then -(n - x) else n - x)
      · obtain ⟨r, e, hr⟩ := impl_near_l0 N hN ps x hx d (i + 1) i (by omega) (by omega) ⟨⟨by omega, by omega, c⟩, fun j j0 j1 hj => by
          by_cases e : j = i
          · rw [e]
            exact ⟨Int.le_refl _, fun _ => Int.le_refl _⟩
          · have := (hb.2 j j0 (by omega) hj).1
            exact ⟨by omega, fun e => by omega⟩⟩
        refine ⟨r, Ev_shift ?_, hr⟩
        rw [hl] at e
        simp only [impl_NearestMix.l0, hl, if_pos (show i < 20001 by omega), if_pos (show 0 ≤ i by omega), if_pos c, w64 (n := i - x) (by omega), w64 (n := n - x) (by omega), abs_eq (n := i - x) (by omega), abs_eq (n := n - x) (by omega), Option.bind_some, if_pos c2, w64 (n := i + 1) (by omega)]
        exact e
      · obtain ⟨r, e, hr⟩ := impl_near_l0 N hN ps x hx d (i + 1) n (by omega) (by omega) ⟨⟨hn.1, by omega, hn.2.2⟩, fun j j0 j1 hj => by
          by_cases e : j = i
          · rw [e]
            exact ⟨by omega, fun _ => by omega⟩
          · exact hb.2 j j0 (by omega) hj⟩
        refine ⟨r, Ev_shift ?_, hr⟩
        rw [hl] at e
        simp only [impl_NearestMix.l0, hl, if_pos (show i < 20001 by omega), if_pos (show 0 ≤ i by omega), if_pos c, w64 (n := i - x) (by omega), w64 (n := n - x) (by omega), abs_eq (n := i - x) (by omega), abs_eq (n := n - x) (by omega), Option.bind_some, if_neg c2, w64 (n := i + 1) (by omega)]
        exact e
    · obtain ⟨r, e, hr⟩ := impl_near_l0 N hN ps x hx d (i + 1) n (by omega) (by omega) ⟨⟨hn.1, by omega, hn.2.2⟩, fun j j0 j1 hj => by
        by_cases e : j = i
        · rw [e] at hj
          exact absurd hj c
        · exact hb.2 j j0 (by omega) hj⟩
      refine ⟨r, Ev_shift ?_, hr⟩
      rw [hl] at e
      simp only [impl_NearestMix.l0, hl, if_pos (show i < 20001 by omega), if_pos (show 0 ≤ i by omega), if_neg c, w64 (n := i + 1) (by omega)]
      exact e
theorem spec_near_lm (N : Nat) (hN : N = 20000) (ps : List Int) (hp : PPc ps) (x : Int) (hx : 0 ≤ x ∧ x ≤ 20000) : ∀ (e : Nat) (d : Int), 0 ≤ d → d + e = x + 1 → (∀ j : Int, 0 ≤ j → j < 20001 → rd (tabF ps N) j ≤ 30 → d ≤ (if j - x < 0 then -(j - x) else j - x)) → ∃ r, Ev (fun k => spec_NearestMix.l0 k x ((tabF ps N).map cvF) d) (r, 0) ∧ BestN (tabF ps N) x 20001 r
  | 0, d, h0, hd, hmin => by
    have h00 : rd (tabF ps N) 0 = 0 := tab_at ps N 0 (by omega)
    have := hmin 0 (by omega) (by omega) (by rw [h00]; decide)
    split at this <;> omega
  | e + 1, d, h0, hd, hmin => by
    have hlm : (((tabF ps N).map cvF).length : Int) = 20001 := by rw [List.length_map, tabF_length]; omega
    have hr := fun i (i0 : 0 ≤ i) (i1 : i ≤ (N : Int)) => tab_rng ps (fun x hx => (hp.2.2.1 x hx).1) N (i := i) i0 i1
    have m1 : rd ((tabF ps N).map cvF) (x - d) = cvF (rd (tabF ps N) (x - d)) := rd_map (by omega) (by rw [tabF_length]; omega)
    have r1 := hr (x - d) (by omega) (by omega)
    by_cases c1 : rd (tabF ps N) (x - d) ≤ 30
    · refine ⟨x - d, Ev_shift ?_, ⟨by omega, by omega, c1⟩, fun j j0 j1 hj => ?_⟩
      · have : rd ((tabF ps N).map cvF) (x - d) ≥ 0 := by rw [m1, show cvF (rd (tabF ps N) (x - d)) = rd (tabF ps N) (x - d) from if_pos c1]; omega
        simp only [spec_NearestMix.l0, w64 (n := x - d) (by omega), if_pos (show x - d ≥ 0 by omega), if_pos (show 0 ≤ x - d by omega), hlm, if_pos (show x - d < 20001 by omega), decide_eq_true this]
        refine Ev_shift ?_
        simp only [spec_NearestMix.j1, if_true, w64 (n := x - d) (by omega)]
        exact Ev.now _
      · have := hmin j j0 j1 hj
        refine ⟨by split <;> omega, fun e => ?_⟩
        split at e <;> split at e <;> omega
    · have no1 : ¬ rd ((tabF ps N).map cvF) (x - d) ≥ 0 := by rw [m1, show cvF (rd (tabF ps N) (x - d)) = -1 from if_neg c1]; decide
      have pre : ∀ r, Ev (fun k => spec_NearestMix.j1 k x ((tabF ps N).map cvF) d false) r → Ev (fun k => spec_NearestMix.l0 k x ((tabF ps N).map cvF) d) r := fun r hr => by
        refine Ev_shift ?_
        simp only [spec_NearestMix.l0, w64 (n := x - d) (by omega), if_pos (show x - d ≥ 0 by omega), if_pos (show 0 ≤ x - d by omega), hlm, if_pos (show x - d < 20001 by omega), decide_eq_false no1]
        exact hr
      have more : (∀ j : Int, 0 ≤ j → j < 20001 → rd (tabF ps N) j ≤ 30 → j ≠ x + d) → ∃ r, Ev (fun k => spec_NearestMix.l0 k x ((tabF ps N).map cvF) (d + 1)) (r, 0) ∧ BestN (tabF ps N) x 20001 r := fun hne =>
        spec_near_lm N hN ps hp x hx e (d + 1) (by omega) (by omega) (fun j j0 j1 hj => by
          have h1 := hmin j j0 j1 hj
          have h2 := hne j j0 j1 hj
          have h3 : j ≠ x - d := fun e => by rw [e] at hj; exact c1 hj
          split at h1 <;> split <;> omega)
      by_cases c2 : x + d ≤ 20000
      · have m2 : rd ((tabF ps N).map cvF) (x + d) = cvF (rd (tabF ps N) (x + d)) := rd_map (by omega) (by rw [tabF_length]; omega)
        have r2 := hr (x + d) (by omega) (by omega)
        by_cases c3 : rd (tabF ps N) (x + d) ≤ 30
        · have yes : rd ((tabF ps N).map cvF) (x + d) ≥ 0 := by rw [m2, show cvF (rd (tabF ps N) (x + d)) = rd (tabF ps N) (x + d) from if_pos c3]; omega
          refine ⟨x + d, pre _ (Ev_shift ?_), ⟨by omega, by omega, c3⟩, fun j j0 j1 hj => ?_⟩
          · simp only [spec_NearestMix.j1, Bool.false_eq_true, if_false, w64 (n := x + d) (by omega), if_pos c2, if_pos (show 0 ≤ x + d by omega), hlm, if_pos (show x + d < 20001 by omega), if_pos yes]
            exact Ev.now _
          · have h1 := hmin j j0 j1 hj
            have h3 : j ≠ x - d := fun e => by rw [e] at hj; exact c1 hj
            refine ⟨by split <;> omega, fun e => ?_⟩
            split at e <;> split at e <;> omega
        · have no2 : ¬ rd ((tabF ps N).map cvF) (x + d) ≥ 0 := by rw [m2, show cvF (rd (tabF ps N) (x + d)) = -1 from if_neg c3]; decide
          obtain ⟨r, er, hr2⟩ := more (fun j j0 j1 hj e => by rw [e] at hj; exact c3 hj)
          refine ⟨r, pre _ (Ev_shift ?_), hr2⟩
          simp only [spec_NearestMix.j1, Bool.false_eq_true, if_false, w64 (n := x + d) (by omega), if_pos c2, if_pos (show 0 ≤ x + d by omega), hlm, if_pos (show x + d < 20001 by omega), if_neg no2, w64 (n := d + 1) (by omega)]
          exact er
      · obtain ⟨r, er, hr2⟩ := more (fun j j0 j1 hj e => by omega)
        refine ⟨r, pre _ (Ev_shift ?_), hr2⟩
        simp only [spec_NearestMix.j1, Bool.false_eq_true, if_false, w64 (n := x + d) (by omega), if_neg c2, w64 (n := d + 1) (by omega)]
        exact er
theorem nearest_ev (N : Nat) (hN : N = 20000) (ps : List Int) (x : Int) (hn : ps.length ≤ 1000000) : ∃ n c, Ev (fun k => spec_NearestMix.f k ps x) (n, c) ∧ Ev (fun k => impl_NearestMix.f k ps x) (n, c) ∧ (c = 0 → PPc ps ∧ (0 ≤ x ∧ x ≤ 20000) ∧ BestN (tabF ps N) x 20001 n) := by
  have hs := spec_ArePieces_ev ps (by omega)
  have hi := impl_ArePieces_ev ps (by omega)
  by_cases h : PPc ps
  · rw [tt_pos h] at hs hi
    by_cases ha : 0 ≤ x ∧ x ≤ 20000
    · have h00 : rd (tabF ps N) 0 = 0 := tab_at ps N 0 (by omega)
      obtain ⟨r, er, hr⟩ := spec_near_lm N hN ps h x ha (x + 1).toNat 0 (by omega) (by omega) (fun j j0 j1 hj => by split <;> omega)
      obtain ⟨s, es, hs2⟩ := impl_near_l0 N hN ps x ha 20000 1 0 (by omega) (by omega) ⟨⟨by omega, by omega, by rw [h00]; decide⟩, fun j j0 j1 hj => by
        have e : j = 0 := by omega
        rw [e]
        exact ⟨Int.le_refl _, fun _ => Int.le_refl _⟩⟩
      have e := BestN_same hr hs2
      subst e
      have hl : ((tabF ps N).length : Int) = 20001 := by rw [tabF_length]; omega
      refine ⟨r, 0, ?_, ?_, fun _ => ⟨h, ha, hr⟩⟩
      · unfold spec_NearestMix.f spec_l11Code.f
        refine Ev.bind (a := (0 : Int)) ?_ ?_
        · refine Ev.bind hs ?_
          simp only [if_true, l01In_eq, Option.bind_some, decide_eq_true_eq, if_pos ha]
          exact Ev.now _
        · simp only [if_true]
          exact Ev.bind (spec_fewest_ev ps h N hN) er
      · unfold impl_NearestMix.f
        refine Ev.bind hi ?_
        simp only [if_true, impl_isDelay.f, within_eq, Option.bind_some, decide_eq_true_eq, if_pos ha]
        refine Ev.bind (impl_fewest_ev ps h N hN) (Ev_shift ?_)
        rw [hl] at es ⊢
        simp only [impl_NearestMix.l0, hl, if_pos (show (0 : Int) < 20001 by decide), if_pos (show (0 : Int) ≤ 0 by decide), h00, if_pos (show (0 : Int) ≤ 30 by decide), w64 (n := 0 - x) (by omega), abs_eq (n := 0 - x) (by omega), Option.bind_some, if_neg (Int.lt_irrefl _), w64 (n := 0 + 1) (by omega)]
        exact es
    · refine ⟨0, 2, ?_, ?_, fun e => by omega⟩
      · unfold spec_NearestMix.f spec_l11Code.f
        refine Ev.bind (a := (2 : Int)) ?_ ?_
        · refine Ev.bind hs ?_
          simp only [if_true, l01In_eq, Option.bind_some, decide_eq_true_eq, if_neg ha]
          exact Ev.now _
        · simp only [if_neg (show ¬ (2 : Int) = 0 by decide)]
          exact Ev.now _
      · unfold impl_NearestMix.f
        refine Ev.bind hi ?_
        simp only [if_true, impl_isDelay.f, within_eq, Option.bind_some, decide_eq_true_eq, if_neg ha]
        exact Ev.now _
  · rw [tt_neg h] at hs hi
    refine ⟨0, 1, ?_, ?_, fun e => by omega⟩
    · unfold spec_NearestMix.f spec_l11Code.f
      refine Ev.bind (a := (1 : Int)) ?_ ?_
      · refine Ev.bind hs ?_
        simp only [Bool.false_eq_true, if_false]
        exact Ev.now _
      · simp only [if_neg (show ¬ (1 : Int) = 0 by decide)]
        exact Ev.now _
    · unfold impl_NearestMix.f
      refine Ev.bind hi ?_
      simp only [Bool.false_eq_true, if_false]
      exact Ev.now _
/-- The fewest pieces with no bound, or -1. -/
def minU (L : List Int) (n : Int) : List Int → Int → Int
  | [], b => b
  | p :: s, b => minU L n s (if p ≤ n then (if rd L (n - p) ≥ 0 then (if b < 0 then rd L (n - p) + 1 else if rd L (n - p) + 1 < b then rd L (n - p) + 1 else b) else b) else b)
def tabU (ps : List Int) : Nat → List Int
  | 0 => [0]
  | n + 1 => tabU ps n ++ [minU (tabU ps n) (n + 1 : Nat) ps (-1)]
theorem tabU_length (ps : List Int) : ∀ n, (tabU ps n).length = n + 1
  | 0 => rfl
  | n + 1 => by simp [tabU, tabU_length ps n]
def c31 (u : Int) : Int := if 0 ≤ u ∧ u ≤ 30 then u else 31
theorem minU_rel (T L : List Int) (n : Int) (M : Int) (hM : 0 ≤ M) (hr : ∀ i : Int, 0 ≤ i → i < n → rd T i = c31 (rd L i) ∧ -1 ≤ rd L i ∧ rd L i ≤ M) : ∀ (s : List Int) (b : Int), (∀ p ∈ s, 1 ≤ p) → -1 ≤ b → b ≤ M + 1 → minE T n s (c31 b) = c31 (minU L n s b) ∧ -1 ≤ minU L n s b ∧ minU L n s b ≤ M + 1
  | [], b, _, h0, h1 => ⟨rfl, h0, h1⟩
  | p :: s, b, hp, h0, h1 => by
    unfold minE minU
    have hp1 := hp p (by simp)
    by_cases c : p ≤ n
    · have h := hr (n - p) (by omega) (by omega)
      simp only [if_pos c]
      have e : mn (c31 b) (rd T (n - p) + 1) = c31 (if rd L (n - p) ≥ 0 then (if b < 0 then rd L (n - p) + 1 else if rd L (n - p) + 1 < b then rd L (n - p) + 1 else b) else b) := by
        rw [h.1]
        by_cases g1 : rd L (n - p) ≥ 0
        · rw [if_pos g1]
          by_cases g2 : b < 0
          · rw [if_pos g2]
            unfold mn c31
            (repeat' split) <;> omega
          · rw [if_neg g2]
            by_cases g3 : rd L (n - p) + 1 < b
            · rw [if_pos g3]
              unfold mn c31
              (repeat' split) <;> omega
            · rw [if_neg g3]
              unfold mn c31
              (repeat' split) <;> omega
        · rw [if_neg g1]
          unfold mn c31
          (repeat' split) <;> omega
      rw [e]
      refine minU_rel T L n M hM hr s _ (fun q hq => hp q (by simp [hq])) ?_ ?_
      · split
        · split
          · omega
          · split <;> omega
        · omega
      · split
        · split
          · omega
          · split <;> omega
        · omega
    · simp only [if_neg c]
      exact minU_rel T L n M hM hr s b (fun q hq => hp q (by simp [hq])) h0 h1
theorem tabU_rel (ps : List Int) (hp : ∀ x ∈ ps, 1 ≤ x) : ∀ (n : Nat) (i : Int), 0 ≤ i → i ≤ n → rd (tabF ps n) i = c31 (rd (tabU ps n) i) ∧ -1 ≤ rd (tabU ps n) i ∧ rd (tabU ps n) i ≤ n
  | 0, i, h0, h1 => by
    have e : i = 0 := by omega
    subst e
    have e : rd (tabU ps 0) 0 = 0 := rfl
    rw [e]
    exact ⟨rfl, by decide, by decide⟩
  | n + 1, i, h0, h1 => by
    have ih := tabU_rel ps hp n
    by_cases e : i = ((n + 1 : Nat) : Int)
    · subst e
      unfold tabF tabU
      rw [rd_mid _ _ [] (by rw [tabF_length]), rd_mid _ _ [] (by rw [tabU_length])]
      have := minU_rel (tabF ps n) (tabU ps n) (n + 1 : Nat) n (by omega) (fun i i0 i1 => ih i i0 (by omega)) ps (-1) hp (by omega) (by omega)
      rw [show c31 (-1) = 31 from rfl] at this
      exact ⟨this.1, this.2.1, by omega⟩
    · unfold tabF tabU
      rw [rd_left _ h0 (by rw [tabF_length]; omega), rd_left _ h0 (by rw [tabU_length]; omega)]
      have := ih i h0 (by omega)
      exact ⟨this.1, this.2.1, by omega⟩
theorem hasInt_l0 (l : List Int) (hn : l.length ≤ 1000000) (x : Int) : ∀ (s : List Int) (i : Int), 0 ≤ i → l.drop i.toNat = s → x ∈ s → Ev (fun k => laws_hasInt.l0 k l x i) true
  | [], i, h0, h, hx => by simp at hx
  | a :: s, i, h0, h, hx => by
    refine Ev_shift ?_
    obtain ⟨h1, h2, h3⟩ := drop_cons 0 h0 h
    have h2' : rd l i = a := h2
    by_cases e : a = x
    · simp only [laws_hasInt.l0, if_pos h1, if_pos h0, h2', if_pos e]
      exact Ev.now _
    · simp only [laws_hasInt.l0, if_pos h1, if_pos h0, h2', if_neg e, w64 (n := i + 1) (by omega)]
      exact hasInt_l0 l hn x s (i + 1) (by omega) h3 (by
        rcases List.mem_cons.1 hx with rfl | hx
        · exact absurd rfl e
        · exact hx)
theorem hasInt_ev (l : List Int) (hn : l.length ≤ 1000000) (x : Int) (hx : x ∈ l) : Ev (fun k => laws_hasInt.f k l x) true := by
  unfold laws_hasInt.f
  exact hasInt_l0 l hn x l 0 (by omega) rfl hx
theorem lsum_l0 (l : List Int) (hl : l.length ≤ 30) : ∀ (s : List Int) (i a : Int), 0 ≤ i → l.drop i.toNat = s → (∀ y ∈ s, 1 ≤ y ∧ y ≤ 10000) → 0 ≤ a → a + 10000 * s.length ≤ 1000000 → Ev (fun k => laws_sum.l0 k l a i) (a + sumQ s)
  | [], i, a, h0, h, hs, ha, hb => by
    refine Ev_shift ?_
    simp only [laws_sum.l0, if_neg (drop_nil h0 h)]
    exact Ev_some (by simp [sumQ])
  | c :: s, i, a, h0, h, hs, ha, hb => by
    refine Ev_shift ?_
    obtain ⟨h1, h2, h3⟩ := drop_cons 0 h0 h
    have h2' : rd l i = c := h2
    have hc := hs c (by simp)
    simp only [List.length_cons] at hb
    simp only [laws_sum.l0, if_pos h1, if_pos h0, h2', w64 (n := i + 1) (by omega), w64 (n := a + c) (by omega)]
    refine Ev_eq (lsum_l0 l hl s (i + 1) (a + c) (by omega) h3 (fun y hy => hs y (by simp [hy])) (by omega) (by omega)) ?_
    simp only [sumQ]
    omega
theorem drawM_l0 (c : List Int) (ps : List Int) (hps : 1 ≤ ps.length ∧ ps.length ≤ 10) : ∀ (d : Nat) (x a s : Int), d ≤ 20 → Src c a s → ∃ t, Ev (fun k => spec_DrawMixDelays.l0 k ps x d c a s) (ps, t)
  | 0, x, a, s, _, h => by
    refine ⟨x, Ev_shift ?_⟩
    simp only [spec_DrawMixDelays.l0, if_neg (show ¬ ((0 : Nat) : Int) > 0 by decide)]
    exact Ev.now _
  | d + 1, x, a, s, hd, h => by
    obtain ⟨v, a1, s1, e1, g1, v0, v1⟩ := next_some h (ps.length : Int) (by omega)
    obtain ⟨t, e⟩ := drawM_l0 c ps hps d (wrap64 (x + rd ps v)) a1 s1 (by omega) g1
    refine ⟨t, Ev_shift ?_⟩
    simp only [spec_DrawMixDelays.l0, if_pos (show ((d + 1 : Nat) : Int) > 0 by omega), e1, Option.bind_some, if_pos v0, if_pos (show v < (ps.length : Int) by omega), w64 (n := ((d + 1 : Nat) : Int) - 1) (by omega), show ((d + 1 : Nat) : Int) - 1 = (d : Int) by omega, w64 (n := (d : Int)) (by omega)]
    exact e
theorem drawM_ev (c : List Int) (hc : c.length ≤ 4096) (hb : ∀ x ∈ c, 0 ≤ x ∧ x ≤ 255) : ∃ (ps : List Int) (t : Int), Ev (fun k => spec_DrawMixDelays.f k c) (ps, t) ∧ ps.length ≤ 10 := by
  obtain ⟨s, e0, h0⟩ := from_ev c hc hb
  obtain ⟨ps, a1, s1, e1, h1, hl⟩ := drawP_ev h0
  obtain ⟨v, a2, s2, e2, h2, v0, v1⟩ := next_some h1 60 (by omega)
  obtain ⟨u, a3, s3, e3, h3, u0, u1⟩ := next_some h2 3000 (by omega)
  obtain ⟨p, a4, s4, e4, h4, _⟩ := pick_some h3 [wrap64 (50 * v), u, 0, 20000, 20001, (-1)] (by simp) (by simp)
  obtain ⟨q, a5, s5, e5, h5, q0, q1⟩ := next_some h4 3 (by omega)
  by_cases c0 : q > 0
  · obtain ⟨z, a6, s6, e6, h6, z0, z1⟩ := next_some h5 9 (by omega)
    obtain ⟨t, e7⟩ := drawM_l0 c ps hl z.toNat 0 a6 s6 (by omega) h6
    rw [show ((z.toNat : Nat) : Int) = z by omega] at e7
    refine ⟨ps, t, ?_, hl.2⟩
    unfold spec_DrawMixDelays.f
    refine Ev.bind e0 (Ev.bind e1 ?_)
    simp only [e2, e3, e4, e5, e6, Option.bind_some, if_pos c0]
    exact e7
  · refine ⟨ps, p, ?_, hl.2⟩
    unfold spec_DrawMixDelays.f
    refine Ev.bind e0 (Ev.bind e1 ?_)
    simp only [e2, e3, e4, e5, Option.bind_some, if_neg c0]
    exact Ev.now _
theorem drawN_ev (c : List Int) (hc : c.length ≤ 4096) (hb : ∀ x ∈ c, 0 ≤ x ∧ x ≤ 255) : ∃ (ps : List Int) (t : Int), Ev (fun k => spec_DrawNearestMix.f k c) (ps, t) ∧ ps.length ≤ 10 := by
  obtain ⟨s, e0, h0⟩ := from_ev c hc hb
  obtain ⟨ps, a1, s1, e1, h1, hl⟩ := drawP_ev h0
  obtain ⟨v, a2, s2, e2, h2, v0, v1⟩ := next_some h1 20001 (by omega)
  obtain ⟨u, a3, s3, e3, h3, u0, u1⟩ := next_some h2 3000 (by omega)
  obtain ⟨z, a4, s4, e4, h4, z0, z1⟩ := next_some h3 1000 (by omega)
  obtain ⟨p, a5, s5, e5, h5, _⟩ := pick_some h4 [v, u, 0, 20000, 20001, z] (by simp) (by simp)
  refine ⟨ps, p, ?_, hl.2⟩
  unfold spec_DrawNearestMix.f
  refine Ev.bind e0 (Ev.bind e1 ?_)
  simp only [e2, e3, e4, e5, Option.bind_some]
  exact Ev.now _
theorem mixU_l2 (ps : List Int) (hp : PPc ps) (t : Int) (m L : List Int) (n : Nat) (hL : L.length = n) (hn : n ≤ 20000) (hn1 : 1 ≤ n) (hr : ∀ i : Int, 0 ≤ i → i < n → -1 ≤ rd L i ∧ rd L i ≤ 20000) : ∀ (s : List Int) (i b : Int), 0 ≤ i → ps.drop i.toNat = s → ∀ r, Ev (fun k => laws_FnMixes.l1 k ps t m (L ++ [minU L n s b]) (n + 1 : Nat)) r → Ev (fun k => laws_FnMixes.l2 k ps t m L n b i) r
  | [], i, b, h0, h, r, hk => by
    refine Ev_shift ?_
    simp only [laws_FnMixes.l2, if_neg (drop_nil h0 h), if_pos (show L.length < 17592186044416 by omega), w64 (n := (n : Int) + 1) (by omega)]
    exact hk
  | p :: s, i, b, h0, h, r, hk => by
    refine Ev_shift ?_
    have hl8 := hp.2.1
    obtain ⟨h1, h2, h3⟩ := drop_cons 0 h0 h
    have h2' : rd ps i = p := h2
    have hp1 := hp.2.2.1 p (List.mem_of_mem_drop (show p ∈ ps.drop i.toNat by rw [h]; simp))
    have go : ∀ b', minU L n (p :: s) b = minU L n s b' → Ev (fun k => laws_FnMixes.l2 k ps t m L n b' (i + 1)) r := fun b' e => mixU_l2 ps hp t m L n hL hn hn1 hr s (i + 1) b' (by omega) h3 r (by rw [← e]; exact hk)
    by_cases c : p ≤ n
    · have hb := hr (n - p) (by omega) (by omega)
      simp only [laws_FnMixes.l2, if_pos h1, if_pos h0, h2', if_pos c, w64 (n := (n : Int) - p) (by omega), if_pos (show 0 ≤ (n : Int) - p by omega), if_pos (show (n : Int) - p < (L.length : Int) by omega), w64 (n := rd L (n - p) + 1) (by omega), w64 (n := i + 1) (by omega)]
      by_cases g1 : rd L (n - p) ≥ 0
      · by_cases g2 : b < 0
        · simp only [if_pos g1, if_pos g2]
          exact go _ (by simp only [minU, if_pos c, if_pos g1, if_pos g2])
        · by_cases g3 : rd L (n - p) + 1 < b
          · simp only [if_pos g1, if_neg g2, if_pos g3]
            exact go _ (by simp only [minU, if_pos c, if_pos g1, if_neg g2, if_pos g3])
          · simp only [if_pos g1, if_neg g2, if_neg g3]
            exact go _ (by simp only [minU, if_pos c, if_pos g1, if_neg g2, if_neg g3])
      · simp only [if_neg g1]
        exact go _ (by simp only [minU, if_pos c, if_neg g1])
    · simp only [laws_FnMixes.l2, if_pos h1, if_pos h0, h2', if_neg c, w64 (n := i + 1) (by omega)]
      exact go _ (by simp only [minU, if_neg c])
theorem mixU_l1 (ps : List Int) (hp : PPc ps) (t : Int) (m : List Int) (ht : t ≤ 20000) (r : Bool) (T : Nat) (hT : t = T) (hk : Ev (fun k => laws_FnMixes.l1 k ps t m (tabU ps T) (T + 1 : Nat)) r) : ∀ (d n : Nat), n + d = T → Ev (fun k => laws_FnMixes.l1 k ps t m (tabU ps n) (n + 1 : Nat)) r
  | 0, n, h => by
    have e : n = T := by omega
    rw [e]
    exact hk
  | d + 1, n, h => by
    refine Ev_shift ?_
    simp only [laws_FnMixes.l1, if_pos (show ((n + 1 : Nat) : Int) ≤ t by omega)]
    refine mixU_l2 ps hp t m (tabU ps n) (n + 1) (tabU_length ps n) (by omega) (by omega) (fun i i0 i1 => ?_) ps 0 (-1) (by omega) rfl r ?_
    · have := tabU_rel ps (fun x hx => (hp.2.2.1 x hx).1) n i i0 (by omega)
      exact ⟨this.2.1, by omega⟩
    · exact mixU_l1 ps hp t m ht r T hT hk d (n + 1) (by omega)
theorem mix_loop (ps : List Int) (hp : PPc ps) (t : Int) (m : List Int) (hm : m.length ≤ 30) (r : Bool) (hmem : ∀ y ∈ m, y ∈ ps) (hasc : ascL m)
    (hk : Ev (fun k => if t = 0 then some ((m.length : Int) == 0) else laws_FnMixes.l1 k ps t m [0] 1) r) : ∀ (s : List Int) (i : Int), 0 ≤ i → m.drop i.toNat = s → (0 < i → ascL (rd m (i - 1) :: s)) → ascL s → Ev (fun k => laws_FnMixes.l0 k ps t m i) r
  | [], i, h0, h, hp1, ha => by
    refine Ev_shift ?_
    simp only [laws_FnMixes.l0, if_neg (drop_nil h0 h)]
    exact hk
  | c :: s, i, h0, h, hp1, ha => by
    refine Ev_shift ?_
    have hl8 := hp.2.1
    obtain ⟨h1, h2, h3⟩ := drop_cons 0 h0 h
    have h2' : rd m i = c := h2
    have hc := hmem c (List.mem_of_mem_drop (show c ∈ m.drop i.toNat by rw [h]; simp))
    simp only [laws_FnMixes.l0, if_pos h1, if_pos h0, h2', w64 (n := i + 1) (by omega)]
    refine Ev.bind (hasInt_ev ps (by omega) c hc) ?_
    have tail : ascL s := by
      cases s with
      | nil => trivial
      | cons d s => exact ha.2
    have next := mix_loop ps hp t m hm r hmem hasc hk s (i + 1) (by omega) h3 (fun _ => by rw [show i + 1 - 1 = i by omega, h2']; exact ha) tail
    by_cases hi : i > 0
    · have hh := (hp1 hi).1
      simp only [if_true, if_pos hi, w64 (n := i - 1) (by omega), if_pos (show 0 ≤ i - 1 by omega), if_pos (show i - 1 < (m.length : Int) by omega), if_neg (show ¬ c < rd m (i - 1) by omega)]
      exact next
    · simp only [if_true, if_neg hi]
      exact next
theorem FnMixes : laws_FnMixes.Pure := by
  intro c _ _ hw
  have hb := u8_rng hw
  by_cases big : (c.length : Int) > 4096
  · refine ⟨0, ?_⟩
    unfold laws_FnMixes.f laws_big.f
    simp only [Option.bind_some, decide_eq_true big, if_true]
  · suffices hq : Ev (fun k => laws_FnMixes.f k c) true by
      obtain ⟨K, hK⟩ := hq
      exact ⟨K, hK K (Nat.le_refl _)⟩
    obtain ⟨N, hN⟩ : ∃ N : Nat, N = 20000 := ⟨_, rfl⟩
    obtain ⟨ps, t, e1, hps⟩ := drawM_ev c (by omega) hb
    obtain ⟨x, z, e2, hx⟩ := drawN_ev c (by omega) hb
    obtain ⟨m, bad, ms, mi, ml, m1, m0, _⟩ := mixfull_ev N hN ps t (by omega)
    obtain ⟨n, one, ns, ni, n0⟩ := nearest_ev N hN x z (by omega)
    have ia := impl_ArePieces_ev ps (by omega)
    have hne : (tt (PPc ps) != (bad != 1)) = false := by
      by_cases h : PPc ps
      · rw [tt_pos h, show (bad != 1) = true from bne_iff_ne.2 (fun e => m1.1 e h)]
        rfl
      · rw [tt_neg h, show (bad != 1) = false from bne_eq_false_iff_eq.2 (m1.2 h)]
        rfl
    unfold laws_FnMixes.f laws_big.f
    simp only [Option.bind_some, decide_eq_false big, Bool.false_eq_true, if_false]
    refine Ev.bind e1 (Ev.bind mi (Ev.bind ms (Ev.bind e2 (Ev.bind ni (Ev.bind ns ?_)))))
    simp only [if_true]
    refine Ev.bind (likeInts_self m (by omega)) ?_
    simp only [if_true]
    refine Ev.bind ia ?_
    simp only [hne]
    refine Ev_shift ?_
    simp only [laws_FnMixes.j0, Bool.false_eq_true, if_false]
    have last : Ev (fun k => laws_FnMixes.j1 k ps t m bad) true := by
      refine Ev_shift ?_
      simp only [laws_FnMixes.j1]
      by_cases c0 : bad = 0
      · obtain ⟨hp, ht, hv, hlen, hsum, hmem, hasc⟩ := m0 c0
        simp only [if_pos c0]
        refine mix_loop ps hp t m ml true hmem hasc ?_ m 0 (by omega) rfl (fun h => by omega) hasc
        by_cases tz : t = 0
        · have h0 : rd (tabF ps N) 0 = 0 := tab_at ps N 0 (by omega)
          simp only [if_pos tz]
          rw [tz, h0] at hlen
          exact Ev_some (by rw [hlen]; rfl)
        · simp only [if_neg tz]
          refine mixU_l1 ps hp t m ht.2 true t.toNat (by omega) ?_ t.toNat 0 (by omega)
          have hrel := tabU_rel ps (fun y hy => (hp.2.2.1 y hy).1) t.toNat t ht.1 (by omega)
          have hTN : rd (tabF ps t.toNat) t = rd (tabF ps N) t := by
            have e : t = ((t.toNat : Nat) : Int) := by omega
            rw [e, Int.toNat_natCast, tab_at ps N _ (by omega), tab_at ps t.toNat _ (by omega)]
          have hU : rd (tabU ps t.toNat) t = rd (tabF ps N) t := by
            rw [hTN] at hrel
            have := hrel.1
            unfold c31 at this
            split at this <;> omega
          refine Ev_shift ?_
          simp only [laws_FnMixes.l1, if_neg (show ¬ ((t.toNat + 1 : Nat) : Int) ≤ t by omega)]
          have hs2 : Ev (fun k => laws_sum.f k m) t := by
            unfold laws_sum.f
            refine Ev_eq (lsum_l0 m ml m 0 0 (by omega) rfl (fun y hy => hp.2.2.1 y (hmem y hy)) (by omega) (by omega)) ?_
            rw [hsum, Int.zero_add]
          refine Ev.bind hs2 ?_
          have hUl : ((tabU ps t.toNat).length : Int) = t + 1 := by rw [tabU_length]; omega
          simp only [if_true, if_pos (show (m.length : Int) ≤ 30 by omega), if_pos hv, if_pos ht.1, hUl, if_pos (show t < t + 1 by omega), hU, hlen, beq_self_eq_true]
          exact Ev.now _
      · simp only [if_neg c0]
        exact Ev.now _
    by_cases c1 : one = 0
    · obtain ⟨hp, hz, hbest⟩ := n0 c1
      obtain ⟨m', b', _, mi', _, _, _, mk'⟩ := mixfull_ev N hN x n (by omega)
      have hb' : b' = 0 := (mk' hp hbest.1.1 (by have := hbest.1.2.1; omega)).1 hbest.1.2.2
      subst hb'
      simp only [if_pos c1]
      refine Ev.bind mi' ?_
      simp only [if_true]
      by_cases c2 : n = z
      · simp only [if_pos c2]
        exact last
      · obtain ⟨m'', b'', _, mi'', _, _, _, mk''⟩ := mixfull_ev N hN x z (by omega)
        have hgt : rd (tabF x N) z > 30 := by
          rcases Int.lt_or_le 30 (rd (tabF x N) z) with h | h
          · exact h
          · have := (hbest.2 z hz.1 (by omega) h).1
            split at this <;> split at this <;> omega
        have hb'' : b'' = 4 := (mk'' hp hz.1 hz.2).2 hgt
        subst hb''
        simp only [if_neg c2]
        refine Ev.bind mi'' ?_
        simp only [if_true]
        exact last
    · simp only [if_neg c1]
      exact last
end Go.Proofs.Ytffnhobhpfnimaa.Pure
