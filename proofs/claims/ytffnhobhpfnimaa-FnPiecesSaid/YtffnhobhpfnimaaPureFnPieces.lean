/- The plain law of FnPieces: what the printed functions compute, without Go and memory. No condition but the bounds that stand in it. -/
import Derived.Test.YtffnhobhpfnimaaPFnPiecesx0
import Derived.Test.YtffnhobhpfnimaaQFnPiecesa
import Derived.Test.YtffnhobhpfnimaaQFnPiecesb
import Derived.Test.YtffnhobhpfnimaaQFnPiecesc
import Derived.Test.YtffnhobhpfnimaaQFnPiecesd
import Derived.Test.YtffnhobhpfnimaaQFnPiecese
import Derived.Test.YtffnhobhpfnimaaOpen
namespace Go.Proofs.Ytffnhobhpfnimaa.Pure
open Go.RowKit Go.Proofs.Ytffnhobhpfnimaa.PFnPieces Go.Proofs.YtffnhobhpfnimaaW.PrintWords Go.Proofs.YtffnhobhpfnimaaW.PrintLast Go.Proofs.Ytffnhobhpfnimaa.Opening
set_option linter.unusedVariables false
set_option linter.unusedSimpArgs false
theorem w64 {n : Int} (h : -9223372036854775808 ≤ n ∧ n ≤ 9223372036854775807) : wrap64 n = n := by
  unfold wrap64
  omega
theorem l01In_eq (a b c : Int) : spec_l01In.f a b c = some (decide (b ≤ a ∧ a ≤ c)) := by
  unfold spec_l01In.f
  by_cases h : b ≤ a <;> simp [h]
theorem within_eq (a b c : Int) : impl_within.f a b c = some (decide (b ≤ a ∧ a ≤ c)) := by
  unfold impl_within.f
  by_cases h : b ≤ a <;> simp [h]
theorem drop_cons {α : Type} {l : List α} {i : Int} {a : α} {s : List α} (z : α) (h0 : 0 ≤ i) (h : l.drop i.toNat = a :: s) : i < l.length ∧ l.getD i.toNat z = a ∧ l.drop (i + 1).toNat = s := by
  have hlt : i.toNat < l.length := by
    rcases Nat.lt_or_ge i.toNat l.length with h1 | h1
    · exact h1
    · rw [List.drop_eq_nil_of_le h1] at h; cases h
  rw [List.drop_eq_getElem_cons hlt] at h
  injection h with h1 h2
  refine ⟨by omega, ?_, ?_⟩
  · rw [List.getD_eq_getElem?_getD, List.getElem?_eq_getElem hlt]; exact h1
  · rw [show (i + 1).toNat = i.toNat + 1 by omega]; exact h2
theorem drop_nil {α : Type} {l : List α} {i : Int} (h0 : 0 ≤ i) (h : l.drop i.toNat = []) : ¬ i < (l.length : Int) := by
  have := List.drop_eq_nil_iff.1 h
  omega
theorem Ev_shift {α : Type} {g : Nat → Option α} {r : α} (h : Ev (fun k => g (k + 1)) r) : Ev g r := Ev.step (fun _ => rfl) h
theorem Ev_eq {α : Type} {g : Nat → Option α} {r q : α} (h : Ev g r) (e : r = q) : Ev g q := e ▸ h
theorem Ev_some {α : Type} {r q : α} (e : r = q) : Ev (fun _ => some r) q := e ▸ Ev.now r
noncomputable def tt (p : Prop) : Bool := @decide p (Classical.propDecidable p)
theorem tt_pos {p : Prop} (h : p) : tt p = true := by unfold tt; exact @decide_eq_true p (Classical.propDecidable p) h
theorem tt_neg {p : Prop} (h : ¬ p) : tt p = false := by unfold tt; exact @decide_eq_false p (Classical.propDecidable p) h
theorem tt_dec (p : Prop) [i : Decidable p] : tt p = decide p := by
  by_cases h : p
  · rw [tt_pos h, decide_eq_true h]
  · rw [tt_neg h, decide_eq_false h]
theorem tt_iff {p q : Prop} (h : p ↔ q) : tt p = tt q := by rw [propext h]
theorem tt_and (p q : Prop) : (tt p && tt q) = tt (p ∧ q) := by
  by_cases h : p
  · rw [tt_pos h, Bool.true_and]; exact tt_iff ⟨fun x => ⟨h, x⟩, fun x => x.2⟩
  · rw [tt_neg h, Bool.false_and, tt_neg (fun x => h x.1)]
theorem tt_eq_true {p : Prop} : tt p = true ↔ p := by
  by_cases h : p
  · exact ⟨fun _ => h, fun _ => tt_pos h⟩
  · refine ⟨fun e => ?_, fun h' => absurd h' h⟩
    rw [tt_neg h] at e
    cases e
theorem ev_all {L : Int → Nat → Option Bool} {P : Int → Prop} {n : Int} {fin : Bool} (h1 : ∀ i, 0 ≤ i → i < n → P i → ∀ r, Ev (L (i + 1)) r → Ev (L i) r) (h2 : ∀ i, 0 ≤ i → i < n → ¬ P i → Ev (L i) false) (h3 : Ev (L n) fin) :
    ∀ (d : Nat) (i : Int), 0 ≤ i → i + d = n → Ev (L i) (fin && tt (∀ j, i ≤ j → j < n → P j))
  | 0, i, h0, hd => by
    have e : i = n := by omega
    rw [e, tt_pos (fun j h1 h2 => by omega), Bool.and_true]
    exact h3
  | d + 1, i, h0, hd => by
    by_cases hp : P i
    · have := h1 i h0 (by omega) hp _ (ev_all h1 h2 h3 d (i + 1) (by omega) (by omega))
      refine Ev_eq this ?_
      congr 1
      exact tt_iff ⟨fun h j h1 h2 => by
        by_cases e : j = i
        · rw [e]; exact hp
        · exact h j (by omega) h2, fun h j h1 h2 => h j (by omega) h2⟩
    · rw [tt_neg (fun h => hp (h i (Int.le_refl _) (by omega))), Bool.and_false]
      exact h2 i h0 (by omega) hp
theorem set_at_mid {α : Type} (p : List α) (b v : α) (s : List α) : (p ++ b :: s).set ((p.length : Int)).toNat v = p ++ v :: s := by
  rw [Int.toNat_natCast, List.set_append_right _ _ (Nat.le_refl _)]
  simp
theorem getD_at_mid {α : Type} (z : α) (p : List α) (b : α) (s : List α) : (p ++ b :: s).getD ((p.length : Int)).toNat z = b := by
  rw [Int.toNat_natCast, List.getD_eq_getElem?_getD, List.getElem?_append_right (Nat.le_refl _)]
  simp
theorem rd_mem {l : List Int} {i : Int} (h0 : 0 ≤ i) (h1 : i < l.length) : rd l i ∈ l := by
  have hlt : i.toNat < l.length := by omega
  have e : rd l i = l[i.toNat] := by
    show l.getD i.toNat _ = _
    rw [List.getD_eq_getElem?_getD, List.getElem?_eq_getElem hlt]
    rfl
  rw [e]
  exact List.getElem_mem hlt
theorem mem_rd {l : List Int} {x : Int} (h : x ∈ l) : ∃ i : Int, 0 ≤ i ∧ i < l.length ∧ rd l i = x := by
  obtain ⟨i, hi, rfl⟩ := List.mem_iff_getElem.1 h
  refine ⟨i, by omega, by omega, ?_⟩
  show l.getD _ _ = _
  rw [Int.toNat_natCast, List.getD_eq_getElem?_getD, List.getElem?_eq_getElem hi]
  rfl
/-- A source of drawn numbers. -/
def Src (c : List Int) (a s : Int) : Prop := (0 ≤ a ∧ a ≤ c.length ∧ c.length ≤ 4096) ∧ (0 ≤ s ∧ s < 2147483647) ∧ ∀ x ∈ c, 0 ≤ x ∧ x ≤ 255
theorem next_some {c : List Int} {a s : Int} (h : Src c a s) (n : Int) (hn : n ≤ 1000000000000) : ∃ v a' s', spec_l01Next.f c a s n = some (v, a', s') ∧ Src c a' s' ∧ 0 ≤ v ∧ (v < n ∨ v = 0) := by
  have ha := h.1
  have hs := h.2.1
  unfold spec_l01Next.f
  by_cases c1 : n ≤ 1
  · rw [if_pos c1]
    exact ⟨0, a, s, rfl, h, by omega, .inr rfl⟩
  · rw [if_neg c1]
    have w1 : wrap64 (wrap64 (s * 48271) + 29) = s * 48271 + 29 := by rw [w64 (n := s * 48271) (by omega), w64 (by omega)]
    obtain ⟨e, he⟩ : ∃ e, Int.tmod (s * 48271 + 29) 2147483647 = e := ⟨_, rfl⟩
    have e0 : 0 ≤ e := he ▸ Int.tmod_nonneg _ (by omega)
    have e1 : e < 2147483647 := he ▸ Int.tmod_lt_of_pos _ (by omega)
    obtain ⟨q, hq⟩ : ∃ q, Int.tdiv e 31 = q := ⟨_, rfl⟩
    have q0 : 0 ≤ q ∧ q ≤ e := by
      rw [← hq, Int.tdiv_eq_ediv_of_nonneg e0]
      omega
    have src : ∀ a' : Int, 0 ≤ a' → a' ≤ (c.length : Int) → Src c a' e := fun a' h0 h1 => ⟨⟨h0, h1, ha.2.2⟩, ⟨e0, e1⟩, h.2.2⟩
    have md : ∀ x, 0 ≤ x → 0 ≤ Int.tmod x n ∧ Int.tmod x n < n := fun x hx => ⟨Int.tmod_nonneg _ hx, Int.tmod_lt_of_pos _ (by omega)⟩
    by_cases c2 : a < c.length
    · have hr := h.2.2 (rd c a) (rd_mem ha.1 c2)
      simp only [w1, he, hq, w64 (n := q) (by omega), if_pos c2, if_pos ha.1, w64 (n := a + 1) (by omega), w64 (n := a + 1 - 1) (by omega), show a + 1 - 1 = a by omega, w64 (n := a) (by omega), w64 (n := rd c a) (by omega), w64 (n := q + rd c a) (by omega), if_neg (show ¬ n = 0 by omega)]
      have m1 := md (rd c a) hr.1
      have m2 := md (q + rd c a) (by omega)
      by_cases c3 : n ≤ 256
      · by_cases c4 : Int.tmod (a + 1) 2 = 0
        · simp only [if_pos c3, if_pos c4]
          exact ⟨_, a + 1, e, rfl, src (a + 1) (by omega) (by omega), m1.1, .inl m1.2⟩
        · simp only [if_pos c3, if_neg c4]
          exact ⟨_, a + 1, e, rfl, src (a + 1) (by omega) (by omega), m2.1, .inl m2.2⟩
      · simp only [if_neg c3]
        exact ⟨_, a + 1, e, rfl, src (a + 1) (by omega) (by omega), m2.1, .inl m2.2⟩
    · have m3 := md q q0.1
      simp only [w1, he, hq, w64 (n := q) (by omega), if_neg c2, if_neg (show ¬ n = 0 by omega)]
      exact ⟨_, a, e, rfl, src a ha.1 ha.2.1, m3.1, .inl m3.2⟩
theorem pick_some {c : List Int} {a s : Int} (h : Src c a s) (l : List Int) (h1 : 1 ≤ l.length) (h2 : l.length ≤ 1000) : ∃ v a' s', spec_l01Pick.f c a s l = some (v, a', s') ∧ Src c a' s' ∧ v ∈ l := by
  obtain ⟨v, a', s', e, hs, h0, hv⟩ := next_some h l.length (by omega)
  refine ⟨rd l v, a', s', ?_, hs, rd_mem h0 (by omega)⟩
  unfold spec_l01Pick.f
  rw [e]
  simp only [Option.bind_some]
  rw [if_pos h0, if_pos (by omega)]
theorem from_l0 (c : List Int) (hc : c.length ≤ 4096) (hb : ∀ x ∈ c, 0 ≤ x ∧ x ≤ 255) : ∀ (d : Nat) (i s : Int), 0 ≤ i → i + d = c.length → 0 ≤ s → s < 2147483647 → ∃ s', Ev (fun k => spec_l01From.l0 k c i c 0 s) (c, 0, s') ∧ Src c 0 s'
  | 0, i, s, h0, hd, s0, s1 => by
    refine ⟨s, Ev_shift ?_, ⟨by omega, by omega, hc⟩, ⟨s0, s1⟩, hb⟩
    simp only [spec_l01From.l0, if_neg (show ¬ i < (c.length : Int) by omega)]
    exact Ev.now _
  | d + 1, i, s, h0, hd, s0, s1 => by
    have hi : i < (c.length : Int) := by omega
    have hr := hb (rd c i) (rd_mem h0 hi)
    by_cases c2 : i < 64
    · obtain ⟨s', e, hs⟩ := from_l0 c hc hb d (i + 1) (Int.tmod (s * 83 + rd c i) 2147483647) (by omega) (by omega) (Int.tmod_nonneg _ (by omega)) (Int.tmod_lt_of_pos _ (by omega))
      refine ⟨s', Ev_shift ?_, hs⟩
      simp only [spec_l01From.l0, if_pos hi, if_pos c2, if_pos h0, w64 (n := i + 1) (by omega), w64 (n := s * 83) (by omega), w64 (n := rd c i) (by omega), w64 (n := s * 83 + rd c i) (by omega)]
      exact e
    · refine ⟨s, Ev_shift ?_, ⟨by omega, by omega, hc⟩, ⟨s0, s1⟩, hb⟩
      simp only [spec_l01From.l0, if_pos hi, if_neg c2]
      exact Ev.now _
theorem from_ev (c : List Int) (hc : c.length ≤ 4096) (hb : ∀ x ∈ c, 0 ≤ x ∧ x ≤ 255) : ∃ s, Ev (fun k => spec_l01From.f k c) (c, 0, s) ∧ Src c 0 s := by
  unfold spec_l01From.f
  exact from_l0 c hc hb c.length 0 61043 (by omega) (by omega) (by omega) (by omega)
theorem u8_rng {l : List Int} (h : ∀ x ∈ l, (Lit.int .u8 x).wf = true) : ∀ x ∈ l, 0 ≤ x ∧ x ≤ 255 := by
  intro x hx
  have := h x hx
  simp only [Lit.wf, Bool.and_eq_true, decide_eq_true_eq] at this
  have h1 : IntKind.min .u8 = 0 := by decide
  have h2 : IntKind.max .u8 = 255 := by decide
  rw [h1, h2] at this
  exact this
theorem likeInts_l0 (l : List Int) (hl : l.length ≤ 10000000) : ∀ (d : Nat) (i : Int), 0 ≤ i → i + d = l.length → Ev (fun k => laws_likeInts.l0 k l l i) true
  | 0, i, h0, hd => by
    refine Ev_shift ?_
    simp only [laws_likeInts.l0, if_neg (show ¬ i < (l.length : Int) by omega)]
    exact Ev.now _
  | d + 1, i, h0, hd => by
    refine Ev_shift ?_
    simp only [laws_likeInts.l0, if_pos (show i < (l.length : Int) by omega), if_pos h0, if_true, w64 (n := i + 1) (by omega)]
    exact likeInts_l0 l hl d (i + 1) (by omega) (by omega)
theorem likeInts_self (l : List Int) (hl : l.length ≤ 10000000) : Ev (fun k => laws_likeInts.f k l l) true := by
  unfold laws_likeInts.f
  simp only [if_true]
  exact likeInts_l0 l hl l.length 0 (by omega) (by omega)
theorem allWithin_l0 (l : List Int) (hn : l.length ≤ 140737488351232) (a b : Int) : ∀ (s : List Int) (i : Int), 0 ≤ i → l.drop i.toNat = s → Ev (fun k => impl_allWithin.l0 k a b l l.length i) (decide (∀ x ∈ s, a ≤ x ∧ x ≤ b))
  | [], i, h0, h => by
    refine Ev_shift ?_
    simp only [impl_allWithin.l0, if_neg (drop_nil h0 h)]
    exact Ev_some (by simp)
  | c :: s, i, h0, h => by
    refine Ev_shift ?_
    obtain ⟨h1, h2, h3⟩ := drop_cons 0 h0 h
    have h2' : rd l i = c := h2
    simp only [impl_allWithin.l0, if_pos h1, if_pos h0, h2', within_eq, Option.bind_some, decide_eq_true_eq, w64 (n := i + 1) (by omega)]
    by_cases hc : a ≤ c ∧ c ≤ b
    · simp only [if_pos hc]
      refine Ev_eq (allWithin_l0 l hn a b s (i + 1) (by omega) h3) ?_
      exact decide_eq_decide.2 ⟨fun h x hx => by
        rcases List.mem_cons.1 hx with rfl | hx
        · exact hc
        · exact h x hx, fun h x hx => h x (by simp [hx])⟩
    · simp only [if_neg hc]
      exact Ev_some (decide_eq_false (fun h => hc (h c (by simp)))).symm
theorem allWithin_ev (l : List Int) (hn : l.length ≤ 140737488351232) (a b : Int) : Ev (fun k => impl_allWithin.f k l a b) (decide (∀ x ∈ l, a ≤ x ∧ x ≤ b)) := by
  unfold impl_allWithin.f
  exact allWithin_l0 l hn a b l 0 (by omega) rfl
/-- Pieces. -/
def PPc (l : List Int) : Prop := 1 ≤ l.length ∧ l.length ≤ 8 ∧ (∀ x ∈ l, 1 ≤ x ∧ x ≤ 10000) ∧ ∀ j : Int, 1 ≤ j → j < l.length → rd l (j - 1) < rd l j
theorem ev_allF {L : Int → Nat → Option Bool} {P : Int → Prop} {n : Int} {fin : Bool} (lo : Int) (h1 : ∀ i, lo ≤ i → i < n → P i → ∀ r, Ev (L (i + 1)) r → Ev (L i) r) (h2 : ∀ i, lo ≤ i → i < n → ¬ P i → Ev (L i) false) (h3 : Ev (L n) fin) :
    ∀ (d : Nat) (i : Int), lo ≤ i → i + d = n → Ev (L i) (fin && tt (∀ j, i ≤ j → j < n → P j))
  | 0, i, h0, hd => by
    have e : i = n := by omega
    rw [e, tt_pos (fun j h1 h2 => by omega), Bool.and_true]
    exact h3
  | d + 1, i, h0, hd => by
    by_cases hp : P i
    · have := h1 i h0 (by omega) hp _ (ev_allF lo h1 h2 h3 d (i + 1) (by omega) (by omega))
      refine Ev_eq this ?_
      congr 1
      exact tt_iff ⟨fun h j h1 h2 => by
        by_cases e : j = i
        · rw [e]; exact hp
        · exact h j (by omega) h2, fun h j h1 h2 => h j (by omega) h2⟩
    · rw [tt_neg (fun h => hp (h i (Int.le_refl _) (by omega))), Bool.and_false]
      exact h2 i h0 (by omega) hp
theorem spec_ArePieces_ev (l : List Int) (hn : l.length ≤ 140737488351232) : Ev (fun k => spec_ArePieces.f k l) (tt (PPc l)) := by
  unfold spec_ArePieces.f
  have := ev_all (L := fun i k => spec_ArePieces.l0 k l i) (P := fun i => (1 ≤ rd l i ∧ rd l i ≤ 10000) ∧ (0 < i → rd l (i - 1) < rd l i)) (n := l.length) (fin := decide (1 ≤ l.length ∧ l.length ≤ 8)) (fun i h0 h1 hp r hr => ?_) (fun i h0 h1 hp => ?_) ?_ l.length 0 (by omega) (by omega)
  · refine Ev_eq this ?_
    rw [← tt_dec, tt_and]
    refine tt_iff ⟨fun h => ⟨h.1.1, h.1.2, fun x hx => ?_, fun j j0 j1 => (h.2 j (by omega) j1).2 (by omega)⟩, fun h => ⟨⟨h.1, h.2.1⟩, fun j h0 h1 => ⟨h.2.2.1 _ (rd_mem h0 h1), fun hj => h.2.2.2 j (by omega) h1⟩⟩⟩
    obtain ⟨i, i0, i1, rfl⟩ := mem_rd hx
    exact (h.2 i i0 i1).1
  · refine Ev_shift ?_
    simp only [spec_ArePieces.l0, if_pos h1, if_pos h0, l01In_eq, Option.bind_some, decide_eq_true_eq, if_pos hp.1, w64 (n := i + 1) (by omega)]
    by_cases hi : i > 0
    · have := hp.2 hi
      simp only [if_pos hi, w64 (n := i - 1) (by omega), if_pos (show 0 ≤ i - 1 by omega), if_pos (show i - 1 < (l.length : Int) by omega), if_neg (show ¬ rd l i ≤ rd l (i - 1) by omega)]
      exact hr
    · simp only [if_neg hi]
      exact hr
  · refine Ev_shift ?_
    simp only [spec_ArePieces.l0, if_pos h1, if_pos h0, l01In_eq, Option.bind_some, decide_eq_true_eq, w64 (n := i + 1) (by omega)]
    by_cases c : 1 ≤ rd l i ∧ rd l i ≤ 10000
    · by_cases hi : i > 0
      · have hle : rd l i ≤ rd l (i - 1) := by
          by_cases g : rd l (i - 1) < rd l i
          · exact absurd ⟨c, fun _ => g⟩ hp
          · omega
        simp only [if_pos c, if_pos hi, w64 (n := i - 1) (by omega), if_pos (show 0 ≤ i - 1 by omega), if_pos (show i - 1 < (l.length : Int) by omega), if_pos hle]
        exact Ev.now _
      · exact absurd ⟨c, fun h => absurd h hi⟩ hp
    · simp only [if_neg c]
      exact Ev.now _
  · refine Ev_shift ?_
    simp only [spec_ArePieces.l0, if_neg (show ¬ (l.length : Int) < l.length by omega), l01In_eq, Option.bind_some]
    exact Ev_some (decide_eq_decide.2 ⟨fun h => by omega, fun h => by omega⟩)
theorem impl_ArePieces_ev (l : List Int) (hn : l.length ≤ 140737488351232) : Ev (fun k => impl_ArePieces.f k l) (tt (PPc l)) := by
  unfold impl_ArePieces.f
  have bad : ¬ PPc l → Ev (fun k => impl_ArePieces.j0 k l true) (tt (PPc l)) := fun h => by
    refine Ev_shift ?_
    simp only [impl_ArePieces.j0, if_true]
    exact Ev_some (tt_neg h).symm
  by_cases c1 : (l.length : Int) < 1
  · simp only [if_pos c1]
    exact bad (fun h => by have := h.1; omega)
  · by_cases c2 : (l.length : Int) > 8
    · simp only [if_neg c1, if_pos c2]
      exact bad (fun h => by have := h.2.1; omega)
    · simp only [if_neg c1, if_neg c2]
      refine Ev.bind (allWithin_ev l hn 1 10000) ?_
      by_cases c3 : ∀ x ∈ l, 1 ≤ x ∧ x ≤ 10000
      · simp only [decide_eq_true c3, Bool.not_true]
        refine Ev_shift ?_
        simp only [impl_ArePieces.j0, Bool.false_eq_true, if_false]
        have := ev_allF (L := fun i k => impl_ArePieces.l0 k l i) (P := fun i => rd l (i - 1) < rd l i) (n := l.length) (fin := true) 1 (fun i h0 h1 hp r hr => ?_) (fun i h0 h1 hp => ?_) ?_ (l.length - 1) 1 (by omega) (by omega)
        · refine Ev_eq this ?_
          rw [Bool.true_and]
          exact tt_iff ⟨fun h => ⟨by omega, by omega, c3, fun j j0 j1 => h j j0 j1⟩, fun h j j0 j1 => h.2.2.2 j j0 j1⟩
        · refine Ev_shift ?_
          simp only [impl_ArePieces.l0, if_pos h1, w64 (n := i - 1) (by omega), if_pos (show 0 ≤ i - 1 by omega), if_pos (show i - 1 < (l.length : Int) by omega), if_pos (show 0 ≤ i by omega), if_neg (show ¬ rd l (i - 1) ≥ rd l i by omega), w64 (n := i + 1) (by omega)]
          exact hr
        · refine Ev_shift ?_
          simp only [impl_ArePieces.l0, if_pos h1, w64 (n := i - 1) (by omega), if_pos (show 0 ≤ i - 1 by omega), if_pos (show i - 1 < (l.length : Int) by omega), if_pos (show 0 ≤ i by omega), if_pos (show rd l (i - 1) ≥ rd l i by omega)]
          exact Ev.now _
        · refine Ev_shift ?_
          simp only [impl_ArePieces.l0, if_neg (show ¬ (l.length : Int) < l.length by omega)]
          exact Ev.now _
      · simp only [decide_eq_false c3, Bool.not_false]
        exact bad (fun h => c3 h.2.2.1)
/-- The least number of pieces: what is found at one total, what is found up to a total. -/
def minE (T : List Int) (n : Int) : List Int → Int → Int
  | [], a => a
  | p :: s, a => minE T n s (if p ≤ n then mn a (rd T (n - p) + 1) else a)
def tabF (ps : List Int) : Nat → List Int
  | 0 => [0]
  | n + 1 => tabF ps n ++ [minE (tabF ps n) (n + 1 : Nat) ps 31]
def valF (ps : List Int) (n : Nat) : Int := rd (tabF ps n) (n : Int)
/-- The reference's word for it. -/
def cvF (v : Int) : Int := if v ≤ 30 then v else -1
theorem tabF_length (ps : List Int) : ∀ n, (tabF ps n).length = n + 1
  | 0 => rfl
  | n + 1 => by simp [tabF, tabF_length ps n]
theorem rd_left {T : List Int} (S : List Int) {i : Int} (h0 : 0 ≤ i) (h1 : i < T.length) : rd (T ++ S) i = rd T i := by
  show (T ++ S).getD i.toNat _ = T.getD i.toNat _
  rw [List.getD_eq_getElem?_getD, List.getD_eq_getElem?_getD, List.getElem?_append_left (by omega)]
theorem rd_mid (T : List Int) (a : Int) (S : List Int) {i : Int} (h : i = T.length) : rd (T ++ a :: S) i = a := by
  subst h
  exact getD_at_mid _ T a S
theorem rd_map {T : List Int} {i : Int} (h0 : 0 ≤ i) (h1 : i < T.length) : rd (T.map cvF) i = cvF (rd T i) := by
  have hlt : i.toNat < T.length := by omega
  show (T.map cvF).getD i.toNat _ = cvF (T.getD i.toNat _)
  rw [List.getD_eq_getElem?_getD, List.getD_eq_getElem?_getD, List.getElem?_map, List.getElem?_eq_getElem hlt]
  rfl
theorem minE_le (T : List Int) (n : Int) : ∀ (s : List Int) (a : Int), minE T n s a ≤ a
  | [], a => Int.le_refl _
  | p :: s, a => by
    unfold minE
    have := minE_le T n s (if p ≤ n then mn a (rd T (n - p) + 1) else a)
    have : (if p ≤ n then mn a (rd T (n - p) + 1) else a) ≤ a := by unfold mn; split <;> (try split) <;> omega
    omega
theorem minE_ge (T : List Int) (n : Int) (hT : ∀ p, 1 ≤ p → p ≤ n → 0 ≤ rd T (n - p)) : ∀ (s : List Int) (a : Int), (∀ x ∈ s, 1 ≤ x) → 1 ≤ a → 1 ≤ minE T n s a
  | [], a, _, ha => ha
  | p :: s, a, hs, ha => by
    unfold minE
    refine minE_ge T n hT s _ (fun x hx => hs x (by simp [hx])) ?_
    split
    · have := hT p (hs p (by simp)) (by assumption)
      unfold mn
      split <;> omega
    · exact ha
theorem minE_mem (T : List Int) (n : Int) : ∀ (s : List Int) (a : Int), minE T n s a = a ∨ ∃ p ∈ s, p ≤ n ∧ minE T n s a = rd T (n - p) + 1
  | [], a => Or.inl rfl
  | p :: s, a => by
    unfold minE
    by_cases hp : p ≤ n
    · simp only [if_pos hp]
      rcases minE_mem T n s (mn a (rd T (n - p) + 1)) with h | ⟨q, hq, h1, h2⟩
      · rw [h]
        unfold mn
        split
        · exact Or.inr ⟨p, by simp, hp, rfl⟩
        · exact Or.inl rfl
      · exact Or.inr ⟨q, by simp [hq], h1, h2⟩
    · simp only [if_neg hp]
      rcases minE_mem T n s a with h | ⟨q, hq, h1, h2⟩
      · exact Or.inl h
      · exact Or.inr ⟨q, by simp [hq], h1, h2⟩
theorem tab_at (ps : List Int) : ∀ (m n : Nat), n ≤ m → rd (tabF ps m) (n : Int) = valF ps n
  | 0, n, h => by
    have : n = 0 := by omega
    subst this
    rfl
  | m + 1, n, h => by
    by_cases e : n = m + 1
    · rw [e]; rfl
    · unfold tabF
      rw [rd_left _ (by omega) (by rw [tabF_length]; omega)]
      exact tab_at ps m n (by omega)
theorem val_succ (ps : List Int) (n : Nat) : valF ps (n + 1) = minE (tabF ps n) (n + 1 : Nat) ps 31 := by
  unfold valF
  show rd (tabF ps n ++ [_]) _ = _
  exact rd_mid _ _ [] (by rw [tabF_length])
theorem val_rng (ps : List Int) (hp : ∀ x ∈ ps, 1 ≤ x) : ∀ (n : Nat), 0 ≤ valF ps n ∧ valF ps n ≤ 31 ∧ (1 ≤ n → 1 ≤ valF ps n) := by
  intro n
  induction n using Nat.strongRecOn with
  | _ n ih =>
    cases n with
    | zero =>
      have e : valF ps 0 = 0 := rfl
      rw [e]
      exact ⟨by decide, by decide, fun h => by omega⟩
    | succ n =>
      rw [val_succ]
      have h1 := minE_le (tabF ps n) (n + 1 : Nat) ps 31
      have h2 := minE_ge (tabF ps n) (n + 1 : Nat) (fun p p0 p1 => by
        have e : ((n + 1 : Nat) : Int) - p = ((n + 1 - p.toNat : Nat) : Int) := by omega
        rw [e, tab_at ps n _ (by omega)]
        exact (ih _ (by omega)).1) ps 31 hp (by decide)
      exact ⟨by omega, h1, fun _ => h2⟩
theorem tab_rng (ps : List Int) (hp : ∀ x ∈ ps, 1 ≤ x) (m : Nat) {i : Int} (h0 : 0 ≤ i) (h1 : i ≤ m) : 0 ≤ rd (tabF ps m) i ∧ rd (tabF ps m) i ≤ 31 := by
  have e : i = (i.toNat : Int) := by omega
  rw [e, tab_at ps m _ (by omega)]
  exact ⟨(val_rng ps hp _).1, (val_rng ps hp _).2.1⟩
theorem impl_few_l1 (ps : List Int) (hp : ∀ x ∈ ps, 1 ≤ x) (hpl : ps.length ≤ 8) (T Z : List Int) (n : Nat) (hT : T.length = n) (hn : n ≤ 20000) (hr : ∀ i : Int, 0 ≤ i → i < n → 0 ≤ rd T i ∧ rd T i ≤ 31) : ∀ (s : List Int) (i a : Int), 0 ≤ i → ps.drop i.toNat = s → ∀ r, Ev (fun k => impl_fewestPieces.l0 k ps (T ++ minE T n s a :: Z) (n + 1 : Nat)) r → Ev (fun k => impl_fewestPieces.l1 k ps (T ++ a :: Z) n ps ps.length i) r
  | [], i, a, h0, h, r, hk => by
    refine Ev_shift ?_
    simp only [impl_fewestPieces.l1, if_neg (drop_nil h0 h), w64 (n := (n : Int) + 1) (by omega)]
    exact hk
  | p :: s, i, a, h0, h, r, hk => by
    refine Ev_shift ?_
    obtain ⟨h1, h2, h3⟩ := drop_cons 0 h0 h
    have h2' : rd ps i = p := h2
    have hlt : (n : Int) < ((T ++ a :: Z).length : Int) := by simp; omega
    have hp1 : 1 ≤ p := by
      have := List.mem_of_mem_drop (show p ∈ ps.drop i.toNat by rw [h]; simp)
      exact hp p this
    have e : rd (T ++ a :: Z) (n : Int) = a := rd_mid T a Z (by omega)
    have se (v : Int) : (T ++ a :: Z).set ((n : Int)).toNat v = T ++ v :: Z := by rw [← hT]; exact set_at_mid T a v Z
    simp only [impl_fewestPieces.l1, if_pos h1, if_pos h0, h2', w64 (n := i + 1) (by omega)]
    by_cases hc : p ≤ n
    · have e2 : rd (T ++ a :: Z) ((n : Int) - p) = rd T (n - p) := rd_left _ (by omega) (by omega)
      have hb := hr (n - p) (by omega) (by omega)
      simp only [if_pos hc, if_pos (show (0 : Int) ≤ n by omega), if_pos hlt, w64 (n := (n : Int) - p) (by omega), if_pos (show 0 ≤ (n : Int) - p by omega), if_pos (show (n : Int) - p < ((T ++ a :: Z).length : Int) by omega), e, e2, w64 (n := rd T (n - p) + 1) (by omega), se]
      refine impl_few_l1 ps hp hpl T Z n hT hn hr s (i + 1) _ (by omega) h3 r ?_
      simp only [minE, if_pos hc] at hk
      exact hk
    · simp only [if_neg hc]
      refine impl_few_l1 ps hp hpl T Z n hT hn hr s (i + 1) a (by omega) h3 r ?_
      simp only [minE, if_neg hc] at hk
      exact hk
theorem impl_few_l0 (ps : List Int) (hp : ∀ x ∈ ps, 1 ≤ x) (hpl : ps.length ≤ 8) : ∀ (d n : Nat), n + d = 20000 → Ev (fun k => impl_fewestPieces.l0 k ps (tabF ps n ++ List.replicate d 0) (n + 1 : Nat)) (tabF ps (n + d))
  | 0, n, h => by
    refine Ev_shift ?_
    simp only [impl_fewestPieces.l0, if_neg (show ¬ ((n + 1 : Nat) : Int) ≤ 20000 by omega), List.replicate_zero, List.append_nil]
    exact Ev.now _
  | d + 1, n, h => by
    refine Ev_shift ?_
    have hl := tabF_length ps n
    have se : (tabF ps n ++ 0 :: List.replicate d 0).set (((n + 1 : Nat) : Int)).toNat 31 = tabF ps n ++ 31 :: List.replicate d 0 := by rw [← hl]; exact set_at_mid _ _ _ _
    simp only [impl_fewestPieces.l0, List.replicate_succ, if_pos (show ((n + 1 : Nat) : Int) ≤ 20000 by omega), if_pos (show (0 : Int) ≤ (n + 1 : Nat) by omega), if_pos (show ((n + 1 : Nat) : Int) < ((tabF ps n ++ 0 :: List.replicate d 0).length : Int) by simp only [List.length_append, hl, List.length_cons]; omega), se]
    refine impl_few_l1 ps hp hpl (tabF ps n) _ (n + 1) hl (by omega) (fun i h0 h1 => tab_rng ps hp n h0 (by omega)) ps 0 31 (by omega) rfl _ ?_
    have := impl_few_l0 ps hp hpl d (n + 1) (by omega)
    rw [show n + 1 + d = n + (d + 1) by omega] at this
    simpa only [tabF, List.append_assoc, List.singleton_append] using this
theorem impl_fewest_ev (ps : List Int) (hp : PPc ps) (N : Nat) (hN : N = 20000) : Ev (fun k => impl_fewestPieces.f k ps) (tabF ps N) := by
  subst hN
  unfold impl_fewestPieces.f
  simp only [if_pos (show 20001 ≤ 35184372088832 by decide)]
  have e : List.replicate 20001 (0 : Int) = tabF ps 0 ++ List.replicate 20000 0 := List.replicate_succ
  have := impl_few_l0 ps (fun x hx => (hp.2.2.1 x hx).1) hp.2.1 20000 0 rfl
  rw [← e, Nat.zero_add] at this
  exact this
theorem spec_few_l1 (ps : List Int) (hp : ∀ x ∈ ps, 1 ≤ x) (hpl : ps.length ≤ 8) (T Z : List Int) (n : Nat) (hT : T.length = n) (hn : n ≤ 20000) (hr : ∀ i : Int, 0 ≤ i → i < n → 0 ≤ rd T i ∧ rd T i ≤ 31) : ∀ (s : List Int) (i a : Int), 0 ≤ i → 1 ≤ a → a ≤ 31 → ps.drop i.toNat = s → ∀ r, Ev (fun k => spec_l11Fewest.l0 k ps (T.map cvF ++ cvF (minE T n s a) :: Z) (n + 1 : Nat)) r → Ev (fun k => spec_l11Fewest.l1 k ps (T.map cvF ++ cvF a :: Z) n i) r
  | [], i, a, h0, a0, a1, h, r, hk => by
    refine Ev_shift ?_
    simp only [spec_l11Fewest.l1, if_neg (drop_nil h0 h), w64 (n := (n : Int) + 1) (by omega)]
    exact hk
  | p :: s, i, a, h0, a0, a1, h, r, hk => by
    refine Ev_shift ?_
    obtain ⟨h1, h2, h3⟩ := drop_cons 0 h0 h
    have h2' : rd ps i = p := h2
    have hTm : (T.map cvF).length = n := by simp [hT]
    have hlt : (n : Int) < ((T.map cvF ++ cvF a :: Z).length : Int) := by simp; omega
    have hp1 : 1 ≤ p := by
      have := List.mem_of_mem_drop (show p ∈ ps.drop i.toNat by rw [h]; simp)
      exact hp p this
    have e : rd (T.map cvF ++ cvF a :: Z) (n : Int) = cvF a := rd_mid _ _ Z (by omega)
    have se (v : Int) : (T.map cvF ++ cvF a :: Z).set ((n : Int)).toNat v = T.map cvF ++ v :: Z := by
      have := set_at_mid (T.map cvF) (cvF a) v Z
      rw [hTm] at this
      exact this
    have go (b : Int) (b0 : 1 ≤ b) (b1 : b ≤ 31) (hb : minE T n (p :: s) a = minE T n s b) : Ev (fun k => spec_l11Fewest.l1 k ps (T.map cvF ++ cvF b :: Z) n (i + 1)) r := by
      refine spec_few_l1 ps hp hpl T Z n hT hn hr s (i + 1) b (by omega) b0 b1 h3 r ?_
      rw [← hb]
      exact hk
    have skip (h : minE T n (p :: s) a = minE T n s a) : Ev (fun k => spec_l11Fewest.j2 k ps (T.map cvF ++ cvF a :: Z) n i p true) r := by
      refine Ev_shift ?_
      simp only [spec_l11Fewest.j2, if_true, w64 (n := i + 1) (by omega)]
      exact go a a0 a1 h
    simp only [spec_l11Fewest.l1, if_pos h1, if_pos h0, h2', w64 (n := i + 1) (by omega)]
    by_cases hc : p > n
    · simp only [if_pos hc]
      exact skip (by simp only [minE, if_neg (show ¬ p ≤ n by omega)])
    · have e2 : rd (T.map cvF ++ cvF a :: Z) ((n : Int) - p) = cvF (rd T (n - p)) := by rw [rd_left _ (by omega) (by omega), rd_map (by omega) (by omega)]
      have hb := hr (n - p) (by omega) (by omega)
      have g1 : 0 ≤ (n : Int) - p := by omega
      have g2 : (n : Int) - p < ((T.map cvF ++ cvF a :: Z).length : Int) := by omega
      simp only [if_neg hc, w64 (n := (n : Int) - p) (by omega), if_pos g1, if_pos g2, e2]
      by_cases c1 : rd T (n - p) ≤ 30
      · have cva : cvF (rd T (n - p)) = rd T (n - p) := if_pos c1
        simp only [cva, if_neg (show ¬ rd T (n - p) < 0 by omega)]
        by_cases c2 : rd T (n - p) = 30
        · simp only [c2, beq_self_eq_true]
          refine skip ?_
          simp only [minE, if_pos (show p ≤ n by omega), c2]
          congr 1
          unfold mn
          split <;> omega
        · have cv1 : cvF (rd T (n - p) + 1) = rd T (n - p) + 1 := if_pos (by omega)
          rw [show (rd T (n - p) == 30) = false from beq_eq_false_iff_ne.2 c2]
          refine Ev_shift ?_
          simp only [spec_l11Fewest.j2, Bool.false_eq_true, if_false, if_pos (show (0 : Int) ≤ n by omega), if_pos hlt, e, w64 (n := (n : Int) - p) (by omega), if_pos g1, if_pos g2, e2, cva, w64 (n := rd T (n - p) + 1) (by omega), w64 (n := i + 1) (by omega), se]
          have up : minE T n (p :: s) a = minE T n s (rd T (n - p) + 1) → Ev (fun k => spec_l11Fewest.l1 k ps (T.map cvF ++ (rd T (n - p) + 1) :: Z) n (i + 1)) r := fun h => by
            have := go (rd T (n - p) + 1) (by omega) (by omega) h
            rw [cv1] at this
            exact this
          by_cases c3 : a ≤ 30
          · have ca : cvF a = a := if_pos c3
            simp only [ca, if_neg (show ¬ a < 0 by omega)]
            by_cases c4 : rd T (n - p) + 1 < a
            · simp only [if_pos c4]
              refine up ?_
              simp only [minE, if_pos (show p ≤ n by omega)]
              congr 1
              unfold mn
              rw [if_pos c4]
            · simp only [if_neg c4]
              have := go a a0 a1 (by
                simp only [minE, if_pos (show p ≤ n by omega)]
                congr 1
                unfold mn
                rw [if_neg c4])
              rw [ca] at this
              exact this
          · have ca : cvF a = -1 := if_neg c3
            simp only [ca, if_pos (show (-1 : Int) < 0 by decide)]
            refine up ?_
            simp only [minE, if_pos (show p ≤ n by omega)]
            congr 1
            unfold mn
            rw [if_pos (by omega)]
      · rw [show cvF (rd T (n - p)) = -1 from if_neg c1]
        simp only [if_pos (show (-1 : Int) < 0 by decide)]
        refine skip ?_
        simp only [minE, if_pos (show p ≤ n by omega)]
        congr 1
        unfold mn
        rw [if_neg (by omega)]
theorem spec_few_l0 (ps : List Int) (hp : ∀ x ∈ ps, 1 ≤ x) (hpl : ps.length ≤ 8) : ∀ (d n : Nat), n + d = 20000 → Ev (fun k => spec_l11Fewest.l0 k ps ((tabF ps n).map cvF ++ List.replicate d 0) (n + 1 : Nat)) ((tabF ps (n + d)).map cvF)
  | 0, n, h => by
    refine Ev_shift ?_
    simp only [spec_l11Fewest.l0, if_neg (show ¬ ((n + 1 : Nat) : Int) ≤ 20000 by omega), List.replicate_zero, List.append_nil]
    exact Ev.now _
  | d + 1, n, h => by
    refine Ev_shift ?_
    have hl : ((tabF ps n).map cvF).length = n + 1 := by rw [List.length_map, tabF_length]
    have se : ((tabF ps n).map cvF ++ 0 :: List.replicate d 0).set (((n + 1 : Nat) : Int)).toNat (-1) = (tabF ps n).map cvF ++ (-1) :: List.replicate d 0 := by
      have := set_at_mid ((tabF ps n).map cvF) 0 (-1) (List.replicate d 0)
      rw [hl] at this
      exact this
    simp only [spec_l11Fewest.l0, List.replicate_succ, if_pos (show ((n + 1 : Nat) : Int) ≤ 20000 by omega), if_pos (show (0 : Int) ≤ (n + 1 : Nat) by omega), if_pos (show ((n + 1 : Nat) : Int) < (((tabF ps n).map cvF ++ 0 :: List.replicate d 0).length : Int) by simp only [List.length_append, hl, List.length_cons]; omega), se]
    refine spec_few_l1 ps hp hpl (tabF ps n) _ (n + 1) (tabF_length ps n) (by omega) (fun i h0 h1 => tab_rng ps hp n h0 (by omega)) ps 0 31 (by omega) (by decide) (by decide) rfl _ ?_
    have := spec_few_l0 ps hp hpl d (n + 1) (by omega)
    rw [show n + 1 + d = n + (d + 1) by omega] at this
    simpa only [tabF, List.map_append, List.map_cons, List.map_nil, List.append_assoc, List.singleton_append] using this
theorem spec_fewest_ev (ps : List Int) (hp : PPc ps) (N : Nat) (hN : N = 20000) : Ev (fun k => spec_l11Fewest.f k ps) ((tabF ps N).map cvF) := by
  subst hN
  unfold spec_l11Fewest.f
  simp only [if_pos (show 20001 ≤ 35184372088832 by decide)]
  have e : List.replicate 20001 (0 : Int) = (tabF ps 0).map cvF ++ List.replicate 20000 0 := List.replicate_succ
  have := spec_few_l0 ps (fun x hx => (hp.2.2.1 x hx).1) hp.2.1 20000 0 rfl
  rw [← e, Nat.zero_add] at this
  exact this
/-- Times in order, within the bounds. -/
def AscF : Int → List Int → Prop
  | _, [] => True
  | p, c :: s => (p ≤ c ∧ c ≤ 20000) ∧ AscF c s
theorem AscF_rng : ∀ (s : List Int) (p : Int), 0 ≤ p → AscF p s → ∀ x ∈ s, 0 ≤ x ∧ x ≤ 20000
  | [], p, _, _, x, hx => by simp at hx
  | c :: s, p, hp, h, x, hx => by
    rcases List.mem_cons.1 hx with rfl | hx
    · exact ⟨by have := h.1; omega, h.1.2⟩
    · exact AscF_rng s c (by have := h.1; omega) h.2 x hx
/-- The gaps' pieces. -/
def gapF (T : List Int) : Int → List Int → List Int → List Int × Int
  | _, [], out => (out, 0)
  | p, c :: s, out => if rd T (c - p) > 30 then ([], 4) else gapF T c s (out ++ [rd T (c - p)])
theorem gapF_length (T : List Int) : ∀ (s : List Int) (p : Int) (out : List Int), (gapF T p s out).1.length ≤ out.length + s.length
  | [], p, out => by simp [gapF]
  | c :: s, p, out => by
    unfold gapF
    split
    · simp
    · have := gapF_length T s c (out ++ [rd T (c - p)])
      simp at this ⊢
      omega
theorem spec_times_ev (ps l : List Int) (hn : l.length ≤ 1000000) (q : List Int × Int) : ∀ (s : List Int) (i p : Int), 0 ≤ i → l.drop i.toNat = s → (AscF p s → Ev (fun k => if (l.length : Int) > 20 then some (([] : List Int), 2) else ((spec_l11Fewest.f k ps).bind fun t => spec_PiecesFor.l1 k l 0 t ([] : List Int) 0)) q) → Ev (fun k => spec_PiecesFor.l0 k ps l p i) (if tt (AscF p s) = true then q else ([], 2))
  | [], i, p, h0, h, hk => by
    refine Ev_shift ?_
    simp only [spec_PiecesFor.l0, if_neg (drop_nil h0 h), tt_pos (show AscF p [] from trivial), if_true]
    exact hk trivial
  | c :: s, i, p, h0, h, hk => by
    refine Ev_shift ?_
    obtain ⟨h1, h2, h3⟩ := drop_cons 0 h0 h
    have h2' : rd l i = c := h2
    simp only [spec_PiecesFor.l0, if_pos h1, if_pos h0, h2', l01In_eq, Option.bind_some, decide_eq_true_eq, w64 (n := i + 1) (by omega)]
    by_cases hc : p ≤ c ∧ c ≤ 20000
    · simp only [if_pos hc]
      refine Ev_eq (spec_times_ev ps l hn q s (i + 1) c (by omega) h3 (fun h => hk ⟨hc, h⟩)) ?_
      rw [tt_iff (show AscF c s ↔ AscF p (c :: s) from ⟨fun h => ⟨hc, h⟩, fun h => h.2⟩)]
    · simp only [if_neg hc, tt_neg (show ¬ AscF p (c :: s) from fun h => hc h.1), Bool.false_eq_true, if_false]
      exact Ev.now _
theorem impl_times_l0 (ps l : List Int) (hn : l.length ≤ 1000000) (hr : ∀ x ∈ l, 0 ≤ x ∧ x ≤ 20000) (q : List Int × Int) : ∀ (s : List Int) (i p : Int), 1 ≤ i → rd l (i - 1) = p → i ≤ (l.length : Int) → l.drop i.toNat = s → (AscF p s → Ev (fun k => (impl_fewestPieces.f k ps).bind fun t => impl_PiecesFor.l1 k t ([] : List Int) 0 l l.length 0) q) → Ev (fun k => impl_PiecesFor.l0 k ps l i) (if tt (AscF p s) = true then q else ([], 2))
  | [], i, p, h0, hp, hi, h, hk => by
    refine Ev_shift ?_
    simp only [impl_PiecesFor.l0, if_neg (drop_nil (by omega) h), tt_pos (show AscF p [] from trivial), if_true]
    exact hk trivial
  | c :: s, i, p, h0, hp, hi, h, hk => by
    refine Ev_shift ?_
    obtain ⟨h1, h2, h3⟩ := drop_cons 0 (show 0 ≤ i by omega) h
    have h2' : rd l i = c := h2
    have hc0 := hr c (List.mem_of_mem_drop (show c ∈ l.drop i.toNat by rw [h]; simp))
    simp only [impl_PiecesFor.l0, if_pos h1, if_pos (show 0 ≤ i by omega), w64 (n := i - 1) (by omega), if_pos (show 0 ≤ i - 1 by omega), if_pos (show i - 1 < (l.length : Int) by omega), h2', hp, w64 (n := i + 1) (by omega)]
    by_cases hc : p ≤ c ∧ c ≤ 20000
    · simp only [if_neg (show ¬ p > c by omega)]
      refine Ev_eq (impl_times_l0 ps l hn hr q s (i + 1) c (by omega) (by rw [show i + 1 - 1 = i by omega]; exact h2') (by omega) h3 (fun h => hk ⟨hc, h⟩)) ?_
      rw [tt_iff (show AscF c s ↔ AscF p (c :: s) from ⟨fun h => ⟨hc, h⟩, fun h => h.2⟩)]
    · simp only [if_pos (show p > c by omega), tt_neg (show ¬ AscF p (c :: s) from fun h => hc h.1), Bool.false_eq_true, if_false]
      exact Ev.now _
theorem spec_gap_ev (N : Nat) (hN : N = 20000) (ps l : List Int) (hp : PPc ps) (hl : l.length ≤ 20) : ∀ (s : List Int) (i p : Int) (out : List Int), 0 ≤ i → 0 ≤ p → AscF p s → out.length ≤ i.toNat → l.drop i.toNat = s → Ev (fun k => spec_PiecesFor.l1 k l p ((tabF ps N).map cvF) out i) (gapF (tabF ps N) p s out)
  | [], i, p, out, h0, hp0, ha, ho, h => by
    refine Ev_shift ?_
    simp only [spec_PiecesFor.l1, if_neg (drop_nil h0 h), gapF]
    exact Ev.now _
  | c :: s, i, p, out, h0, hp0, ha, ho, h => by
    refine Ev_shift ?_
    obtain ⟨h1, h2, h3⟩ := drop_cons 0 h0 h
    have h2' : rd l i = c := h2
    have hc := ha.1
    have hb : (((tabF ps N).map cvF).length : Int) = 20001 := by rw [List.length_map, tabF_length]; omega
    have hm : rd ((tabF ps N).map cvF) (c - p) = cvF (rd (tabF ps N) (c - p)) := rd_map (by omega) (by rw [tabF_length]; omega)
    have hr := tab_rng ps (fun x hx => (hp.2.2.1 x hx).1) N (i := c - p) (by omega) (by omega)
    unfold gapF
    simp only [spec_PiecesFor.l1, if_pos h1, if_pos h0, h2', w64 (n := i + 1) (by omega), w64 (n := c - p) (by omega), if_pos (show 0 ≤ c - p by omega), hb, if_pos (show c - p < 20001 by omega), hm]
    by_cases hv : rd (tabF ps N) (c - p) > 30
    · simp only [if_pos hv, show cvF (rd (tabF ps N) (c - p)) = -1 from if_neg (by omega), if_pos (show (-1 : Int) < 0 by decide)]
      exact Ev.now _
    · simp only [if_neg hv, show cvF (rd (tabF ps N) (c - p)) = rd (tabF ps N) (c - p) from if_pos (by omega), if_neg (show ¬ rd (tabF ps N) (c - p) < 0 by omega), if_pos (show out.length < 17592186044416 by omega)]
      exact spec_gap_ev N hN ps l hp hl s (i + 1) c _ (by omega) (by omega) ha.2 (by simp; omega) h3
theorem impl_gap_ev (N : Nat) (hN : N = 20000) (ps l : List Int) (hp : PPc ps) (hl : l.length ≤ 20) : ∀ (s : List Int) (i p : Int) (out : List Int), 0 ≤ i → 0 ≤ p → AscF p s → out.length ≤ i.toNat → l.drop i.toNat = s → Ev (fun k => impl_PiecesFor.l1 k (tabF ps N) out p l l.length i) (gapF (tabF ps N) p s out)
  | [], i, p, out, h0, hp0, ha, ho, h => by
    refine Ev_shift ?_
    simp only [impl_PiecesFor.l1, if_neg (drop_nil h0 h), gapF]
    exact Ev.now _
  | c :: s, i, p, out, h0, hp0, ha, ho, h => by
    refine Ev_shift ?_
    obtain ⟨h1, h2, h3⟩ := drop_cons 0 h0 h
    have h2' : rd l i = c := h2
    have hc := ha.1
    have hb : ((tabF ps N).length : Int) = 20001 := by rw [tabF_length]; omega
    unfold gapF
    simp only [impl_PiecesFor.l1, if_pos h1, if_pos h0, h2', w64 (n := i + 1) (by omega), w64 (n := c - p) (by omega), if_pos (show 0 ≤ c - p by omega), hb, if_pos (show c - p < 20001 by omega)]
    by_cases hv : rd (tabF ps N) (c - p) > 30
    · simp only [if_pos hv]
      exact Ev.now _
    · simp only [if_neg hv, if_pos (show out.length < 17592186044416 by omega)]
      exact impl_gap_ev N hN ps l hp hl s (i + 1) c _ (by omega) (by omega) ha.2 (by simp; omega) h3
/-- A total that can be made has a piece that leaves one with one piece less. -/
theorem mix_step (ps : List Int) (hp : PPc ps) (N : Nat) (n : Int) (h0 : 0 < n) (h1 : n ≤ N) (hv : rd (tabF ps N) n ≤ 30) : ∃ p ∈ ps, p ≤ n ∧ rd (tabF ps N) (n - p) = rd (tabF ps N) n - 1 := by
  obtain ⟨m, rfl⟩ : ∃ m : Nat, n = ((m + 1 : Nat) : Int) := ⟨n.toNat - 1, by omega⟩
  rw [tab_at ps N _ (by omega), val_succ] at hv ⊢
  rcases minE_mem (tabF ps m) (m + 1 : Nat) ps 31 with h | ⟨p, hm, hle, h⟩
  · omega
  · have hp1 := (hp.2.2.1 p hm).1
    have e : ((m + 1 : Nat) : Int) - p = ((m + 1 - p.toNat : Nat) : Int) := by omega
    refine ⟨p, hm, hle, ?_⟩
    rw [h, e, tab_at ps N _ (by omega), tab_at ps m _ (by omega)]
    omega
theorem imix_scan (N : Nat) (hN : N = 20000) (ps : List Int) (hp : PPc ps) (n : Int) (h0 : 0 < n) (h1 : n ≤ N) (hv : rd (tabF ps N) n ≤ 30) (out : List Int) (ho : out.length ≤ 100) (r : List Int × Int)
    (ih : ∀ p ∈ ps, p ≤ n → rd (tabF ps N) (n - p) = rd (tabF ps N) n - 1 → True) (q : Int) :
    ∀ (s : List Int) (i : Int), 0 ≤ i → ps.drop i.toNat = s → (∃ p ∈ s, p ≤ n ∧ rd (tabF ps N) (n - p) = rd (tabF ps N) n - 1) →
      ∃ p ∈ ps, p ≤ n ∧ rd (tabF ps N) (n - p) = rd (tabF ps N) n - 1 ∧ ∀ r : List Int × Int,
        (Ev (fun k => impl_MixDelays.l0 k ps (n - p) (tabF ps N) (out ++ [p])) r → Ev (fun k => impl_MixDelays.l1 k ps n (tabF ps N) out ps ps.length i) r)
  | [], i, i0, h, hx => by
    obtain ⟨p, hm, _⟩ := hx
    simp at hm
  | c :: s, i, i0, h, hx => by
    obtain ⟨g1, g2, g3⟩ := drop_cons 0 i0 h
    have h2' : rd ps i = c := g2
    have hl8 := hp.2.1
    have hcm : c ∈ ps := List.mem_of_mem_drop (show c ∈ ps.drop i.toNat by rw [h]; simp)
    have hc1 := hp.2.2.1 c hcm
    have hb : ((tabF ps N).length : Int) = 20001 := by rw [tabF_length]; omega
    have hbm : (((tabF ps N).map cvF).length : Int) = 20001 := by rw [List.length_map]; exact hb
    have hpos := (val_rng ps (fun x hx => (hp.2.2.1 x hx).1) n.toNat).2.2 (by omega)
    rw [← tab_at ps N n.toNat (by omega), show ((n.toNat : Nat) : Int) = n by omega] at hpos
    have hmn : rd ((tabF ps N).map cvF) n = rd (tabF ps N) n := by rw [rd_map (by omega) (by omega)]; exact if_pos hv
    by_cases hc : c ≤ n ∧ rd (tabF ps N) (n - c) = rd (tabF ps N) n - 1
    · refine ⟨c, hcm, hc.1, hc.2, fun r hk => ?_⟩
      refine Ev_shift ?_
      simp only [impl_MixDelays.l1, if_pos i0, if_pos g1, h2', if_pos hc.1, w64 (n := n - c) (by omega), if_pos (show 0 ≤ n - c by omega), hb, if_pos (show n - c < 20001 by omega), if_pos (show 0 ≤ n by omega), if_pos (show n < 20001 by omega), hc.2, w64 (n := rd (tabF ps N) n - 1) (by omega), if_true, if_pos (show out.length < 17592186044416 by omega)]
      exact hk
    · have hx' : ∃ p ∈ s, p ≤ n ∧ rd (tabF ps N) (n - p) = rd (tabF ps N) n - 1 := by
        obtain ⟨p, hm, hq⟩ := hx
        rcases List.mem_cons.1 hm with rfl | hm
        · exact absurd hq hc
        · exact ⟨p, hm, hq⟩
      obtain ⟨p, pm, p1, p2, pk⟩ := imix_scan N hN ps hp n h0 h1 hv out ho r ih q s (i + 1) (by omega) g3 hx'
      refine ⟨p, pm, p1, p2, fun r hk => ?_⟩
      · have := pk r hk
        refine Ev_shift ?_
        by_cases hcn : c ≤ n
        · simp only [impl_MixDelays.l1, if_pos i0, if_pos g1, h2', if_pos hcn, w64 (n := n - c) (by omega), if_pos (show 0 ≤ n - c by omega), hb, if_pos (show n - c < 20001 by omega), if_pos (show 0 ≤ n by omega), if_pos (show n < 20001 by omega), w64 (n := rd (tabF ps N) n - 1) (by omega), if_neg (show ¬ rd (tabF ps N) (n - c) = rd (tabF ps N) n - 1 from fun e => hc ⟨hcn, e⟩), w64 (n := i + 1) (by omega)]
          exact this
        · simp only [impl_MixDelays.l1, if_pos i0, if_pos g1, h2', if_neg hcn, w64 (n := i + 1) (by omega)]
          exact this
theorem mixlen_ev (N : Nat) (hN : N = 20000) (ps : List Int) (hp : PPc ps) : ∀ (d : Nat) (n : Int) (out : List Int), n = d → n ≤ N → rd (tabF ps N) n ≤ 30 → out.length + rd (tabF ps N) n ≤ 30 →
    ∃ r : List Int, (r.length : Int) = out.length + rd (tabF ps N) n ∧ Ev (fun k => impl_MixDelays.l0 k ps n (tabF ps N) out) (r, 0) := by
  intro d
  induction d using Nat.strongRecOn with
  | _ d ih =>
    intro n out hd hn hv ho
    have hb := tab_rng ps (fun x hx => (hp.2.2.1 x hx).1) N (i := n) (by omega) hn
    by_cases hz : n > 0
    · obtain ⟨p, pm, p1, p2, pk⟩ := imix_scan N hN ps hp n hz hn hv out (by omega) (out, 0) (fun _ _ _ _ => trivial) 0 ps 0 (by omega) rfl (mix_step ps hp N n hz hn hv)
      have hp1 := (hp.2.2.1 p pm).1
      obtain ⟨r, hr, e2⟩ := ih (n - p).toNat (by omega) (n - p) (out ++ [p]) (by omega) (by omega) (by omega) (by simp; omega)
      refine ⟨r, by rw [hr, p2]; simp; omega, ?_⟩
      refine Ev_shift ?_
      simp only [impl_MixDelays.l0, if_pos hz]
      exact pk (r, 0) e2
    · have e : n = 0 := by omega
      subst e
      have h0 : rd (tabF ps N) 0 = 0 := tab_at ps N 0 (by omega)
      refine ⟨out, by rw [h0]; omega, Ev_shift ?_⟩
      simp only [impl_MixDelays.l0, if_neg hz]
      exact Ev.now _
theorem impl_mix_ev {ps : List Int} (hp : PPc ps) {N : Nat} (hN : N = 20000) {n : Int} (h0 : 0 ≤ n) (h1 : n ≤ 20000) (hv : rd (tabF ps N) n ≤ 30) : ∃ r : List Int, (r.length : Int) = rd (tabF ps N) n ∧ Ev (fun k => impl_MixDelays.f k ps n) (r, 0) := by
  have hb : ((tabF ps N).length : Int) = 20001 := by rw [tabF_length]; omega
  have hi := impl_ArePieces_ev ps (by have := hp.2.1; omega)
  rw [tt_pos hp] at hi
  obtain ⟨r, hr, e⟩ := mixlen_ev N hN ps hp n.toNat n [] (by omega) (by omega) hv (by simp; omega)
  refine ⟨r, by simpa using hr, ?_⟩
  unfold impl_MixDelays.f
  refine Ev.bind hi ?_
  simp only [if_true, impl_isDelay.f, within_eq, Option.bind_some, decide_eq_true_eq, if_pos (show 0 ≤ n ∧ n ≤ 20000 from ⟨h0, h1⟩)]
  refine Ev.bind (impl_fewest_ev ps hp N hN) ?_
  simp only [if_pos h0, hb, if_pos (show n < 20001 by omega), if_neg (show ¬ rd (tabF ps N) n > 30 by omega)]
  exact e
/-- The gaps' numbers, and that they can be made. -/
def gapsL (T : List Int) : Int → List Int → List Int
  | _, [] => []
  | p, c :: s => rd T (c - p) :: gapsL T c s
def okG (T : List Int) : Int → List Int → Prop
  | _, [] => True
  | p, c :: s => rd T (c - p) ≤ 30 ∧ okG T c s
theorem gapF_ok (T : List Int) : ∀ (s : List Int) (p : Int) (out : List Int), (gapF T p s out).2 = 0 → (gapF T p s out).1 = out ++ gapsL T p s ∧ okG T p s
  | [], p, out, _ => by simp [gapF, gapsL, okG]
  | c :: s, p, out, h => by
    unfold gapF at h ⊢
    by_cases g : rd T (c - p) > 30
    · rw [if_pos g] at h
      exact absurd h (by decide)
    · rw [if_neg g] at h ⊢
      have := gapF_ok T s c _ h
      refine ⟨?_, by omega, this.2⟩
      rw [this.1]
      simp [gapsL]
theorem piecesFor_ev (N : Nat) (hN : N = 20000) (m0 : List Int) (m1 : List Int) (hn0 : m0.length ≤ 1000000) (hn1 : m1.length ≤ 1000000) : ∃ q : List Int × Int, q.1.length ≤ 10000000 ∧ (q.2 = 0 → PPc m0 ∧ AscF 0 m1 ∧ q = gapF (tabF m0 N) 0 m1 []) ∧ Ev (fun k => spec_PiecesFor.f k m0 m1) q ∧ Ev (fun k => impl_PiecesFor.f k m0 m1) q := by
  have fin : ∀ q : List Int × Int, q.1.length ≤ 10000000 → (q.2 = 0 → PPc m0 ∧ AscF 0 m1 ∧ q = gapF (tabF m0 N) 0 m1 []) → Ev (fun k => spec_PiecesFor.f k m0 m1) q → Ev (fun k => impl_PiecesFor.f k m0 m1) q → ∃ q : List Int × Int, q.1.length ≤ 10000000 ∧ (q.2 = 0 → PPc m0 ∧ AscF 0 m1 ∧ q = gapF (tabF m0 N) 0 m1 []) ∧ Ev (fun k => spec_PiecesFor.f k m0 m1) q ∧ Ev (fun k => impl_PiecesFor.f k m0 m1) q := fun q h1 h2 h3 h4 => ⟨q, h1, h2, h3, h4⟩
  have hs := spec_ArePieces_ev m0 (by omega)
  have hi := impl_ArePieces_ev m0 (by omega)
  by_cases h : PPc m0
  · rw [tt_pos h] at hs hi
    -- what the reference answers
    have s0 : ∀ q, (AscF 0 m1 → Ev (fun k => if (m1.length : Int) > 20 then some (([] : List Int), 2) else ((spec_l11Fewest.f k m0).bind fun t => spec_PiecesFor.l1 k m1 0 t ([] : List Int) 0)) q) → Ev (fun k => spec_PiecesFor.f k m0 m1) (if tt (AscF 0 m1) = true then q else ([], 2)) := fun q hq => by
      unfold spec_PiecesFor.f
      refine Ev.bind hs ?_
      simp only [if_true]
      exact spec_times_ev m0 m1 hn1 q m1 0 0 (by omega) rfl hq
    have bad : Ev (fun k => impl_PiecesFor.j0 k m0 m1 true) (([] : List Int), (2 : Int)) := by
      refine Ev_shift ?_
      simp only [impl_PiecesFor.j0, if_true]
      exact Ev.now _
    by_cases hl : (m1.length : Int) > 20
    · refine fin ([], 2) (by simp) (fun e => absurd e (by decide)) ?_ ?_
      · have := s0 ([], 2) (fun _ => by simp only [if_pos hl]; exact Ev.now _)
        simpa only [ite_self] using this
      · unfold impl_PiecesFor.f
        refine Ev.bind hi ?_
        simp only [if_true, if_pos hl]
        exact bad
    · have hlen := gapF_length (tabF m0 N) m1 0 []
      have s1 := s0 (gapF (tabF m0 N) 0 m1 []) (fun ha => by
        simp only [if_neg hl]
        refine Ev.bind (spec_fewest_ev m0 h N hN) ?_
        exact spec_gap_ev N hN m0 m1 h (by omega) m1 0 0 [] (by omega) (by omega) ha (by simp) rfl)
      refine fin (if tt (AscF 0 m1) = true then gapF (tabF m0 N) 0 m1 [] else ([], 2)) (by split <;> simp at hlen ⊢; omega) (fun e => by
        by_cases ha : AscF 0 m1
        · exact ⟨h, ha, by rw [tt_pos ha, if_pos rfl]⟩
        · rw [tt_neg ha] at e
          simp at e) s1 ?_
      unfold impl_PiecesFor.f
      refine Ev.bind hi ?_
      simp only [if_true, if_neg hl]
      refine Ev.bind (allWithin_ev m1 (by omega) 0 20000) ?_
      by_cases hw : ∀ x ∈ m1, 0 ≤ x ∧ x ≤ 20000
      · simp only [decide_eq_true hw, Bool.not_true]
        refine Ev_shift ?_
        simp only [impl_PiecesFor.j0, Bool.false_eq_true, if_false]
        have body : AscF 0 m1 → Ev (fun k => (impl_fewestPieces.f k m0).bind fun t => impl_PiecesFor.l1 k t ([] : List Int) 0 m1 m1.length 0) (gapF (tabF m0 N) 0 m1 []) := fun ha => by
          refine Ev.bind (impl_fewest_ev m0 h N hN) ?_
          exact impl_gap_ev N hN m0 m1 h (by omega) m1 0 0 [] (by omega) (by omega) ha (by simp) rfl
        cases m1 with
        | nil =>
          rw [tt_pos (show AscF 0 [] from trivial)]
          refine Ev_shift ?_
          simp only [impl_PiecesFor.l0, List.length_nil, if_neg (show ¬ (1 : Int) < ((0 : Nat) : Int) by decide), if_true]
          exact body trivial
        | cons c s =>
          have hc := hw c (by simp)
          refine Ev_eq (impl_times_l0 m0 (c :: s) hn1 hw (gapF (tabF m0 N) 0 (c :: s) []) s 1 c (by omega) rfl (by simp; omega) rfl (fun h => body ⟨hc, h⟩)) ?_
          rw [tt_iff (show AscF c s ↔ AscF 0 (c :: s) from ⟨fun h => ⟨hc, h⟩, fun h => h.2⟩)]
      · simp only [decide_eq_false hw, Bool.not_false]
        rw [tt_neg (fun ha => hw (AscF_rng m1 0 (by omega) ha))]
        exact bad
  · rw [tt_neg h] at hs hi
    refine fin ([], 1) (by simp) (fun e => absurd e (by decide)) ?_ ?_
    · unfold spec_PiecesFor.f
      refine Ev.bind hs ?_
      simp only [Bool.false_eq_true, if_false]
      exact Ev.now _
    · unfold impl_PiecesFor.f
      refine Ev.bind hi ?_
      simp only [Bool.false_eq_true, if_false]
      exact Ev.now _
theorem drawP_l0 (c : List Int) : ∀ (d : Nat) (out : List Int) (x a s : Int), Src c a s → 1 ≤ out.length + d → out.length + d ≤ 4 → ∃ l a' s', Ev (fun k => spec_l11Pieces.l0 k out x d c a s) (l, a', s') ∧ Src c a' s' ∧ 1 ≤ l.length ∧ l.length ≤ 10
  | 0, out, x, a, s, h, h1, h4 => by
    obtain ⟨v, a1, s1, e1, g1, v0, v1⟩ := next_some h 24 (by omega)
    by_cases c0 : v = 0
    · obtain ⟨p, a2, s2, e2, g2, _⟩ := pick_some g1 [0, 1, 10000, 10001] (by simp) (by simp)
      refine ⟨[p], a2, s2, Ev_shift ?_, g2, by simp, by simp⟩
      simp only [spec_l11Pieces.l0, if_neg (show ¬ ((0 : Nat) : Int) > 0 by decide), e1, Option.bind_some, if_pos c0, e2]
      exact Ev.now _
    · by_cases c1 : v = 1
      · obtain ⟨u, a2, s2, e2, g2, u0, u1⟩ := next_some g1 2 (by omega)
        have hlen : (([1, 2, 3, 4, 5, 6, 7, 8, 9] : List Int).length : Int) = 9 := rfl
        refine ⟨([1, 2, 3, 4, 5, 6, 7, 8, 9] : List Int).take (8 + u).toNat, a2, s2, Ev_shift ?_, g2, by rw [List.length_take]; have : ([1, 2, 3, 4, 5, 6, 7, 8, 9] : List Int).length = 9 := rfl; omega, by rw [List.length_take]; have : ([1, 2, 3, 4, 5, 6, 7, 8, 9] : List Int).length = 9 := rfl; omega⟩
        simp only [spec_l11Pieces.l0, if_neg (show ¬ ((0 : Nat) : Int) > 0 by decide), e1, Option.bind_some, if_neg c0, if_pos c1, e2, w64 (n := 8 + u) (by omega), if_pos (show 0 ≤ 8 + u by omega), hlen, if_pos (show 8 + u ≤ 9 by omega)]
        exact Ev.now _
      · by_cases c2 : v = 2
        · refine ⟨out ++ [rd out 0], a1, s1, Ev_shift ?_, g1, by simp, by simp; omega⟩
          simp only [spec_l11Pieces.l0, if_neg (show ¬ ((0 : Nat) : Int) > 0 by decide), e1, Option.bind_some, if_neg c0, if_neg c1, if_pos c2, if_pos (show 0 < (out.length : Int) by omega), if_pos (show out.length < 17592186044416 by omega)]
          exact Ev.now _
        · refine ⟨out, a1, s1, Ev_shift ?_, g1, by omega, by omega⟩
          simp only [spec_l11Pieces.l0, if_neg (show ¬ ((0 : Nat) : Int) > 0 by decide), e1, Option.bind_some, if_neg c0, if_neg c1, if_neg c2]
          exact Ev.now _
  | d + 1, out, x, a, s, h, h1, h4 => by
    obtain ⟨v, a1, s1, e1, g1, v0, v1⟩ := next_some h 700 (by omega)
    obtain ⟨p, a2, s2, e2, g2, _⟩ := pick_some g1 [100, 250, wrap64 (1 + v), 500] (by simp) (by simp)
    obtain ⟨l, a', s', e, g, hl⟩ := drawP_l0 c d (out ++ [x]) (wrap64 (x + p)) a2 s2 g2 (by simp; omega) (by simp; omega)
    refine ⟨l, a', s', Ev_shift ?_, g, hl⟩
    simp only [spec_l11Pieces.l0, if_pos (show ((d + 1 : Nat) : Int) > 0 by omega), if_pos (show out.length < 17592186044416 by omega), e1, Option.bind_some, e2, w64 (n := ((d + 1 : Nat) : Int) - 1) (by omega), show ((d + 1 : Nat) : Int) - 1 = (d : Int) by omega, w64 (n := (d : Int)) (by omega)]
    exact e
theorem drawP_ev {c : List Int} {a s : Int} (h : Src c a s) : ∃ l a' s', Ev (fun k => spec_l11Pieces.f k c a s) (l, a', s') ∧ Src c a' s' ∧ 1 ≤ l.length ∧ l.length ≤ 10 := by
  obtain ⟨v, a1, s1, e1, g1, v0, v1⟩ := next_some h 500 (by omega)
  obtain ⟨p, a2, s2, e2, g2, _⟩ := pick_some g1 [100, 250, wrap64 (1 + v), 500] (by simp) (by simp)
  obtain ⟨u, a3, s3, e3, g3, u0, u1⟩ := next_some g2 4 (by omega)
  obtain ⟨l, a', s', e, g, hl⟩ := drawP_l0 c (1 + u).toNat [] p a3 s3 g3 (by simp; omega) (by simp; omega)
  rw [show (((1 + u).toNat : Nat) : Int) = 1 + u by omega] at e
  refine ⟨l, a', s', ?_, g, hl⟩
  unfold spec_l11Pieces.f
  simp only [e1, Option.bind_some, e2, e3, w64 (n := 1 + u) (by omega)]
  exact e
theorem drawT_end (c : List Int) (ps : List Int) (out : List Int) (x a s : Int) (h : Src c a s) (ho : out.length ≤ 20) : ∃ l, Ev (fun k => spec_DrawPiecesFor.l0 k ps out x 0 c a s) (ps, l) ∧ l.length ≤ 30 := by
  obtain ⟨v, a1, s1, e1, g1, v0, v1⟩ := next_some h 24 (by omega)
  by_cases c0 : v = 0
  · obtain ⟨p, a2, s2, e2, g2, _⟩ := pick_some g1 [wrap64 (x - 1), x, 20000, 20001] (by simp) (by simp)
    refine ⟨out ++ [p], Ev_shift ?_, by simp; omega⟩
    simp only [spec_DrawPiecesFor.l0, if_neg (show ¬ (0 : Int) > 0 by decide), e1, Option.bind_some, if_pos c0, e2, if_pos (show out.length < 17592186044416 by omega)]
    exact Ev.now _
  · by_cases c1 : v = 1
    · obtain ⟨u, a2, s2, e2, g2, u0, u1⟩ := next_some g1 2 (by omega)
      refine ⟨List.replicate (20 + u).toNat 0, Ev_shift ?_, by simp; omega⟩
      simp only [spec_DrawPiecesFor.l0, if_neg (show ¬ (0 : Int) > 0 by decide), e1, Option.bind_some, if_neg c0, if_pos c1, e2, w64 (n := 20 + u) (by omega), if_pos (show 0 ≤ 20 + u by omega), if_pos (show (20 + u).toNat ≤ 35184372088832 by omega)]
      exact Ev.now _
    · refine ⟨out, Ev_shift ?_, by omega⟩
      simp only [spec_DrawPiecesFor.l0, if_neg (show ¬ (0 : Int) > 0 by decide), e1, Option.bind_some, if_neg c0, if_neg c1]
      exact Ev.now _
theorem drawT_l1 (c : List Int) (ps : List Int) (hps : 1 ≤ ps.length ∧ ps.length ≤ 10) (r : List Int × List Int) (y : Int) (out : List Int) (ho : out.length ≤ 20)
    (next : ∀ x a s, Src c a s → ∃ l, Ev (fun k => spec_DrawPiecesFor.l0 k ps (out ++ [x]) x (wrap64 (y - 1)) c a s) (ps, l) ∧ l.length ≤ 30) : ∀ (e : Nat) (x a s : Int), e ≤ 10 → Src c a s → ∃ l, Ev (fun k => spec_DrawPiecesFor.l1 k ps out x y e c a s) (ps, l) ∧ l.length ≤ 30
  | 0, x, a, s, _, h => by
    obtain ⟨l, e, hl⟩ := next x a s h
    refine ⟨l, Ev_shift ?_, hl⟩
    simp only [spec_DrawPiecesFor.l1, if_neg (show ¬ ((0 : Nat) : Int) > 0 by decide), if_pos (show out.length < 17592186044416 by omega)]
    exact e
  | e + 1, x, a, s, he, h => by
    obtain ⟨v, a1, s1, e1, g1, v0, v1⟩ := next_some h (ps.length : Int) (by omega)
    obtain ⟨l, e2, hl⟩ := drawT_l1 c ps hps r y out ho next e (wrap64 (x + rd ps v)) a1 s1 (by omega) g1
    refine ⟨l, Ev_shift ?_, hl⟩
    simp only [spec_DrawPiecesFor.l1, if_pos (show ((e + 1 : Nat) : Int) > 0 by omega), e1, Option.bind_some, if_pos v0, if_pos (show v < (ps.length : Int) by omega), w64 (n := ((e + 1 : Nat) : Int) - 1) (by omega), show ((e + 1 : Nat) : Int) - 1 = (e : Int) by omega, w64 (n := (e : Int)) (by omega)]
    exact e2
theorem drawT_l0 (c : List Int) (ps : List Int) (hps : 1 ≤ ps.length ∧ ps.length ≤ 10) : ∀ (d : Nat) (out : List Int) (x a s : Int), Src c a s → out.length + d ≤ 20 → ∃ l, Ev (fun k => spec_DrawPiecesFor.l0 k ps out x d c a s) (ps, l) ∧ l.length ≤ 30
  | 0, out, x, a, s, h, ho => drawT_end c ps out x a s h (by omega)
  | d + 1, out, x, a, s, h, ho => by
    obtain ⟨v, a1, s1, e1, g1, v0, v1⟩ := next_some h 4 (by omega)
    obtain ⟨l, e, hl⟩ := drawT_l1 c ps hps ([], []) ((d + 1 : Nat) : Int) out (by omega) (fun x' a' s' g' => by
      have := drawT_l0 c ps hps d (out ++ [x']) x' a' s' g' (by simp; omega)
      rw [w64 (n := ((d + 1 : Nat) : Int) - 1) (by omega), show ((d + 1 : Nat) : Int) - 1 = (d : Int) by omega]
      exact this) v.toNat x a1 s1 (by omega) g1
    rw [show ((v.toNat : Nat) : Int) = v by omega] at e
    refine ⟨l, Ev_shift ?_, hl⟩
    simp only [spec_DrawPiecesFor.l0, if_pos (show ((d + 1 : Nat) : Int) > 0 by omega), e1, Option.bind_some]
    exact e
theorem drawT_ev (c : List Int) (hc : c.length ≤ 4096) (hb : ∀ x ∈ c, 0 ≤ x ∧ x ≤ 255) : ∃ (ps ts : List Int), Ev (fun k => spec_DrawPiecesFor.f k c) (ps, ts) ∧ ps.length ≤ 10 ∧ ts.length ≤ 30 := by
  obtain ⟨s, e0, h0⟩ := from_ev c hc hb
  obtain ⟨ps, a1, s1, e1, h1, hl⟩ := drawP_ev h0
  obtain ⟨v, a2, s2, e2, h2, v0, v1⟩ := next_some h1 6 (by omega)
  obtain ⟨ts, e3, ht⟩ := drawT_l0 c ps hl v.toNat [] 0 a2 s2 h2 (by simp; omega)
  rw [show ((v.toNat : Nat) : Int) = v by omega] at e3
  refine ⟨ps, ts, ?_, hl.2, ht⟩
  unfold spec_DrawPiecesFor.f
  refine Ev.bind e0 (Ev.bind e1 ?_)
  simp only [e2, Option.bind_some]
  exact e3
theorem pieces_loop (N : Nat) (hN : N = 20000) (ps ts n : List Int) (hp : PPc ps) (hts : ts.length ≤ 30) (hn : n.length = ts.length) : ∀ (s pre : List Int) (i p : Int), 0 ≤ i → ts.drop i.toNat = s → pre.length = i.toNat → n = pre ++ gapsL (tabF ps N) p s → 0 ≤ p → AscF p s → okG (tabF ps N) p s → Ev (fun k => laws_FnPieces.l0 k ps ts n 0 p i) true
  | [], pre, i, p, h0, h, hpre, hnn, hp0, ha, ho => by
    have := drop_nil h0 h
    refine Ev_shift ?_
    simp only [laws_FnPieces.l0, if_true, decide_eq_false this]
    refine Ev_shift ?_
    simp only [laws_FnPieces.j2, Bool.false_eq_true, if_false, if_true]
    exact Ev_some (by rw [hn]; simp)
  | c :: s, pre, i, p, h0, h, hpre, hnn, hp0, ha, ho => by
    obtain ⟨h1, h2, h3⟩ := drop_cons 0 h0 h
    have h2' : rd ts i = c := h2
    have hc := ha.1
    obtain ⟨r, hr, e⟩ := impl_mix_ev hp hN (n := c - p) (by omega) (by omega) ho.1
    have hni : rd n i = rd (tabF ps N) (c - p) := by
      rw [hnn]
      show List.getD _ _ _ = _
      rw [← hpre, List.getD_eq_getElem?_getD, List.getElem?_append_right (Nat.le_refl _)]
      simp [gapsL]
    refine Ev_shift ?_
    simp only [laws_FnPieces.l0, if_true, decide_eq_true h1]
    refine Ev_shift ?_
    simp only [laws_FnPieces.j2, if_true, if_pos h0, if_pos h1, h2', w64 (n := c - p) (by omega)]
    refine Ev.bind e ?_
    simp only [if_true, if_pos (show i < (n.length : Int) by omega), hni, if_pos hr, w64 (n := i + 1) (by omega)]
    exact pieces_loop N hN ps ts n hp hts hn s (pre ++ [rd (tabF ps N) (c - p)]) (i + 1) c (by omega) h3 (by simp; omega) (by rw [hnn]; simp [gapsL]) (by omega) ha.2 ho.2
theorem gapsL_length (T : List Int) : ∀ (s : List Int) (p : Int), (gapsL T p s).length = s.length
  | [], _ => rfl
  | c :: s, p => by simp [gapsL, gapsL_length T s]
theorem FnPieces : laws_FnPieces.Pure := by
  intro c _ _ hw
  have hb := u8_rng hw
  by_cases big : (c.length : Int) > 4096
  · refine ⟨0, ?_⟩
    unfold laws_FnPieces.f laws_big.f
    simp only [Option.bind_some, decide_eq_true big, if_true]
  · suffices hq : Ev (fun k => laws_FnPieces.f k c) true by
      obtain ⟨K, hK⟩ := hq
      exact ⟨K, hK K (Nat.le_refl _)⟩
    obtain ⟨N, hN⟩ : ∃ N : Nat, N = 20000 := ⟨_, rfl⟩
    obtain ⟨ps, ts, ed, hps, hts⟩ := drawT_ev c (by omega) hb
    obtain ⟨⟨n, bad⟩, hlen, hok, es, ei⟩ := piecesFor_ev N hN ps ts (by omega) (by omega)
    have hlen : n.length ≤ 10000000 := hlen
    unfold laws_FnPieces.f laws_big.f
    simp only [Option.bind_some, decide_eq_false big, Bool.false_eq_true, if_false]
    refine Ev.bind ed (Ev.bind ei (Ev.bind es ?_))
    simp only [if_true]
    refine Ev.bind (likeInts_self n hlen) (Ev_shift ?_)
    simp only [laws_FnPieces.j0, Bool.not_true, Bool.false_eq_true, if_false]
    by_cases c0 : bad = 0
    · obtain ⟨hp, ha, hq⟩ := hok c0
      have hz : (gapF (tabF ps N) 0 ts []).2 = 0 := by rw [← hq]; exact c0
      obtain ⟨g1, g2⟩ := gapF_ok _ _ _ _ hz
      have hn : n = gapsL (tabF ps N) 0 ts := by
        have : n = (gapF (tabF ps N) 0 ts []).1 := by rw [← hq]
        rw [this, g1]
        rfl
      subst c0
      exact pieces_loop N hN ps ts n hp hts (by rw [hn, gapsL_length]) ts [] 0 0 (by omega) rfl rfl (by rw [hn]; rfl) (by omega) ha g2
    · refine Ev_shift ?_
      simp only [laws_FnPieces.l0, if_neg c0]
      refine Ev_shift ?_
      simp only [laws_FnPieces.j2, Bool.false_eq_true, if_false, if_neg c0]
      exact Ev.now _
end Go.Proofs.Ytffnhobhpfnimaa.Pure
