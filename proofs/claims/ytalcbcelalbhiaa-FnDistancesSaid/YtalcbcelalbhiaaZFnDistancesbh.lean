/- PureFnDistances of the law FnDistances: taken over, declaration by declaration, as far as the law leans on it (the words and the printed functions are the kit's own print). No condition but what each says. -/
import Derived.Test.YtalcbcelalbhiaaZFnDistancesav
import Derived.Test.YtalcbcelalbhiaaZFnDistancesax
import Derived.Test.YtalcbcelalbhiaaZFnDistancesay
import Derived.Test.YtalcbcelalbhiaaZFnDistancesaz
import Derived.Test.YtalcbcelalbhiaaZFnDistancesba
import Derived.Test.YtalcbcelalbhiaaZFnDistancesbb
import Derived.Test.YtalcbcelalbhiaaZFnDistancesbc
import Derived.Test.YtalcbcelalbhiaaZFnDistancesbd
import Derived.Test.YtalcbcelalbhiaaZFnDistancesbe
import Derived.Test.YtalcbcelalbhiaaZFnDistancesbf
import Derived.Test.YtalcbcelalbhiaaZFnDistancesbg
namespace Go.Proofs.Ytalcbcelalbhiaa.Pure
open Go.RowKit Go.Proofs.Ytalcbcelalbhiaa.PFnDistances Go.Proofs.YtalcbcelalbhiaaW.PrintWords Go.Proofs.YtalcbcelalbhiaaW.PrintLast Go.Proofs.Ytalcbcelalbhiaa.Opening
set_option linter.unusedVariables false
set_option linter.unusedSimpArgs false
theorem w64 {n : Int} (h : -9223372036854775808 ≤ n ∧ n ≤ 9223372036854775807) : wrap64 n = n := by
  unfold wrap64
  omega
theorem dec_and {p q : Prop} [Decidable p] [Decidable q] : (if decide p = true then some (decide q) else some false) = some (decide (p ∧ q)) := by
  by_cases h : p <;> simp [h]
theorem l01In_eq (a b c : Int) : spec_l01In.f a b c = some (decide (b ≤ a ∧ a ≤ c)) := by
  unfold spec_l01In.f
  by_cases h : b ≤ a <;> simp [h]
theorem within_eq (a b c : Int) : impl_within.f a b c = some (decide (b ≤ a ∧ a ≤ c)) := by
  unfold impl_within.f
  by_cases h : b ≤ a <;> simp [h]
theorem drop_cons {α : Type} {l : List α} {i : Int} {a : α} {s : List α} (z : α) (h0 : 0 ≤ i) (h : l.drop i.toNat = a :: s) : i < l.length ∧ l.getD i.toNat z = a ∧ l.drop (i + 1).toNat = s := by
  have hlt : i.toNat < l.length := by
    rcases Nat.lt_or_ge i.toNat l.length with h1 | h1
    · exact h1
    · rw [List.drop_eq_nil_of_le h1] at h; cases h
  rw [List.drop_eq_getElem_cons hlt] at h
  injection h with h1 h2
  refine ⟨by omega, ?_, ?_⟩
  · rw [List.getD_eq_getElem?_getD, List.getElem?_eq_getElem hlt]; exact h1
  · rw [show (i + 1).toNat = i.toNat + 1 by omega]; exact h2
theorem drop_nil {α : Type} {l : List α} {i : Int} (h0 : 0 ≤ i) (h : l.drop i.toNat = []) : ¬ i < (l.length : Int) := by
  have := List.drop_eq_nil_iff.1 h
  omega
theorem Ev_shift {α : Type} {g : Nat → Option α} {r : α} (h : Ev (fun k => g (k + 1)) r) : Ev g r := Ev.step (fun _ => rfl) h
theorem Ev_eq {α : Type} {g : Nat → Option α} {r q : α} (h : Ev g r) (e : r = q) : Ev g q := e ▸ h
theorem Ev_some {α : Type} {r q : α} (e : r = q) : Ev (fun _ => some r) q := e ▸ Ev.now r
noncomputable def tt (p : Prop) : Bool := @decide p (Classical.propDecidable p)
theorem tt_pos {p : Prop} (h : p) : tt p = true := by unfold tt; exact @decide_eq_true p (Classical.propDecidable p) h
theorem tt_neg {p : Prop} (h : ¬ p) : tt p = false := by unfold tt; exact @decide_eq_false p (Classical.propDecidable p) h
theorem tt_dec (p : Prop) [i : Decidable p] : tt p = decide p := by
  by_cases h : p
  · rw [tt_pos h, decide_eq_true h]
  · rw [tt_neg h, decide_eq_false h]
theorem tt_iff {p q : Prop} (h : p ↔ q) : tt p = tt q := by rw [propext h]
theorem tt_and (p q : Prop) : (tt p && tt q) = tt (p ∧ q) := by
  by_cases h : p
  · rw [tt_pos h, Bool.true_and]; exact tt_iff ⟨fun x => ⟨h, x⟩, fun x => x.2⟩
  · rw [tt_neg h, Bool.false_and, tt_neg (fun x => h x.1)]
theorem tt_eq_true {p : Prop} : tt p = true ↔ p := by
  by_cases h : p
  · exact ⟨fun _ => h, fun _ => tt_pos h⟩
  · refine ⟨fun e => ?_, fun h' => absurd h' h⟩
    rw [tt_neg h] at e
    cases e
theorem ev_all {L : Int → Nat → Option Bool} {P : Int → Prop} {n : Int} {fin : Bool} (h1 : ∀ i, 0 ≤ i → i < n → P i → ∀ r, Ev (L (i + 1)) r → Ev (L i) r) (h2 : ∀ i, 0 ≤ i → i < n → ¬ P i → Ev (L i) false) (h3 : Ev (L n) fin) :
    ∀ (d : Nat) (i : Int), 0 ≤ i → i + d = n → Ev (L i) (fin && tt (∀ j, i ≤ j → j < n → P j))
  | 0, i, h0, hd => by
    have e : i = n := by omega
    rw [e, tt_pos (fun j h1 h2 => by omega), Bool.and_true]
    exact h3
  | d + 1, i, h0, hd => by
    by_cases hp : P i
    · have := h1 i h0 (by omega) hp _ (ev_all h1 h2 h3 d (i + 1) (by omega) (by omega))
      refine Ev_eq this ?_
      congr 1
      exact tt_iff ⟨fun h j h1 h2 => by
        by_cases e : j = i
        · rw [e]; exact hp
        · exact h j (by omega) h2, fun h j h1 h2 => h j (by omega) h2⟩
    · rw [tt_neg (fun h => hp (h i (Int.le_refl _) (by omega))), Bool.and_false]
      exact h2 i h0 (by omega) hp
/-- The numbers from i on, d of them looked at, that are told true. -/
def idxF (p : Int → Bool) : Nat → Int → List Int
  | 0, _ => []
  | d + 1, i => if p i = true then i :: idxF p d (i + 1) else idxF p d (i + 1)
theorem idxF_length (p : Int → Bool) : ∀ (d : Nat) (i : Int), (idxF p d i).length ≤ d
  | 0, _ => Nat.le_refl _
  | d + 1, i => by
    unfold idxF
    have := idxF_length p d (i + 1)
    split
    · simp only [List.length_cons]
      omega
    · omega
theorem ev_filter {ρ : Type} {L : Int → List Int → Nat → Option ρ} {p : Int → Bool} {n : Int} {fin : List Int → ρ}
    (h1 : ∀ (i : Int) (out : List Int), 0 ≤ i → i < n → (out.length : Int) ≤ i → p i = true → ∀ r, Ev (L (i + 1) (out ++ [i])) r → Ev (L i out) r)
    (h2 : ∀ (i : Int) (out : List Int), 0 ≤ i → i < n → (out.length : Int) ≤ i → p i = false → ∀ r, Ev (L (i + 1) out) r → Ev (L i out) r)
    (h3 : ∀ out : List Int, (out.length : Int) ≤ n → Ev (L n out) (fin out)) :
    ∀ (d : Nat) (i : Int) (out : List Int), 0 ≤ i → i + d = n → (out.length : Int) ≤ i → Ev (L i out) (fin (out ++ idxF p d i))
  | 0, i, out, h0, hd, hl => by
    have e : i = n := by omega
    subst e
    simp only [idxF, List.append_nil]
    exact h3 out hl
  | d + 1, i, out, h0, hd, hl => by
    unfold idxF
    cases hp : p i with
    | true =>
      refine h1 i out h0 (by omega) hl hp _ ?_
      have := ev_filter h1 h2 h3 d (i + 1) (out ++ [i]) (by omega) (by omega) (by simp; omega)
      simpa using this
    | false =>
      refine h2 i out h0 (by omega) hl hp _ ?_
      have := ev_filter h1 h2 h3 d (i + 1) out (by omega) (by omega) (by omega)
      simpa using this
theorem rd_mem {l : List Int} {i : Int} (h0 : 0 ≤ i) (h1 : i < l.length) : rd l i ∈ l := by
  have hlt : i.toNat < l.length := by omega
  have e : rd l i = l[i.toNat] := by
    show l.getD i.toNat _ = _
    rw [List.getD_eq_getElem?_getD, List.getElem?_eq_getElem hlt]
    rfl
  rw [e]
  exact List.getElem_mem hlt
theorem mx_eq (a b : Int) : mx a b = max a b := by
  unfold mx
  omega
/-- A source of drawn numbers. -/
def Src (c : List Int) (a s : Int) : Prop := (0 ≤ a ∧ a ≤ c.length ∧ c.length ≤ 4096) ∧ (0 ≤ s ∧ s < 2147483647) ∧ ∀ x ∈ c, 0 ≤ x ∧ x ≤ 255
theorem next_some {c : List Int} {a s : Int} (h : Src c a s) (n : Int) (hn : n ≤ 1000000000000) : ∃ v a' s', spec_l01Next.f c a s n = some (v, a', s') ∧ Src c a' s' ∧ 0 ≤ v ∧ (v < n ∨ v = 0) := by
  have ha := h.1
  have hs := h.2.1
  unfold spec_l01Next.f
  by_cases c1 : n ≤ 1
  · rw [if_pos c1]
    exact ⟨0, a, s, rfl, h, by omega, .inr rfl⟩
  · rw [if_neg c1]
    have w1 : wrap64 (wrap64 (s * 48271) + 29) = s * 48271 + 29 := by rw [w64 (n := s * 48271) (by omega), w64 (by omega)]
    obtain ⟨e, he⟩ : ∃ e, Int.tmod (s * 48271 + 29) 2147483647 = e := ⟨_, rfl⟩
    have e0 : 0 ≤ e := he ▸ Int.tmod_nonneg _ (by omega)
    have e1 : e < 2147483647 := he ▸ Int.tmod_lt_of_pos _ (by omega)
    obtain ⟨q, hq⟩ : ∃ q, Int.tdiv e 31 = q := ⟨_, rfl⟩
    have q0 : 0 ≤ q ∧ q ≤ e := by
      rw [← hq, Int.tdiv_eq_ediv_of_nonneg e0]
      omega
    have src : ∀ a' : Int, 0 ≤ a' → a' ≤ (c.length : Int) → Src c a' e := fun a' h0 h1 => ⟨⟨h0, h1, ha.2.2⟩, ⟨e0, e1⟩, h.2.2⟩
    have md : ∀ x, 0 ≤ x → 0 ≤ Int.tmod x n ∧ Int.tmod x n < n := fun x hx => ⟨Int.tmod_nonneg _ hx, Int.tmod_lt_of_pos _ (by omega)⟩
    by_cases c2 : a < c.length
    · have hr := h.2.2 (rd c a) (rd_mem ha.1 c2)
      simp only [w1, he, hq, w64 (n := q) (by omega), if_pos c2, if_pos ha.1, w64 (n := a + 1) (by omega), w64 (n := a + 1 - 1) (by omega), show a + 1 - 1 = a by omega, w64 (n := a) (by omega), w64 (n := rd c a) (by omega), w64 (n := q + rd c a) (by omega), if_neg (show ¬ n = 0 by omega)]
      have m1 := md (rd c a) hr.1
      have m2 := md (q + rd c a) (by omega)
      by_cases c3 : n ≤ 256
      · by_cases c4 : Int.tmod (a + 1) 2 = 0
        · simp only [if_pos c3, if_pos c4]
          exact ⟨_, a + 1, e, rfl, src (a + 1) (by omega) (by omega), m1.1, .inl m1.2⟩
        · simp only [if_pos c3, if_neg c4]
          exact ⟨_, a + 1, e, rfl, src (a + 1) (by omega) (by omega), m2.1, .inl m2.2⟩
      · simp only [if_neg c3]
        exact ⟨_, a + 1, e, rfl, src (a + 1) (by omega) (by omega), m2.1, .inl m2.2⟩
    · have m3 := md q q0.1
      simp only [w1, he, hq, w64 (n := q) (by omega), if_neg c2, if_neg (show ¬ n = 0 by omega)]
      exact ⟨_, a, e, rfl, src a ha.1 ha.2.1, m3.1, .inl m3.2⟩
theorem pick_some {c : List Int} {a s : Int} (h : Src c a s) (l : List Int) (h1 : 1 ≤ l.length) (h2 : l.length ≤ 1000) : ∃ v a' s', spec_l01Pick.f c a s l = some (v, a', s') ∧ Src c a' s' ∧ v ∈ l := by
  obtain ⟨v, a', s', e, hs, h0, hv⟩ := next_some h l.length (by omega)
  refine ⟨rd l v, a', s', ?_, hs, rd_mem h0 (by omega)⟩
  unfold spec_l01Pick.f
  rw [e]
  simp only [Option.bind_some]
  rw [if_pos h0, if_pos (by omega)]
theorem from_l0 (c : List Int) (hc : c.length ≤ 4096) (hb : ∀ x ∈ c, 0 ≤ x ∧ x ≤ 255) : ∀ (d : Nat) (i s : Int), 0 ≤ i → i + d = c.length → 0 ≤ s → s < 2147483647 → ∃ s', Ev (fun k => spec_l01From.l0 k c i c 0 s) (c, 0, s') ∧ Src c 0 s'
  | 0, i, s, h0, hd, s0, s1 => by
    refine ⟨s, Ev_shift ?_, ⟨by omega, by omega, hc⟩, ⟨s0, s1⟩, hb⟩
    simp only [spec_l01From.l0, if_neg (show ¬ i < (c.length : Int) by omega)]
    exact Ev.now _
  | d + 1, i, s, h0, hd, s0, s1 => by
    have hi : i < (c.length : Int) := by omega
    have hr := hb (rd c i) (rd_mem h0 hi)
    by_cases c2 : i < 64
    · obtain ⟨s', e, hs⟩ := from_l0 c hc hb d (i + 1) (Int.tmod (s * 83 + rd c i) 2147483647) (by omega) (by omega) (Int.tmod_nonneg _ (by omega)) (Int.tmod_lt_of_pos _ (by omega))
      refine ⟨s', Ev_shift ?_, hs⟩
      simp only [spec_l01From.l0, if_pos hi, if_pos c2, if_pos h0, w64 (n := i + 1) (by omega), w64 (n := s * 83) (by omega), w64 (n := rd c i) (by omega), w64 (n := s * 83 + rd c i) (by omega)]
      exact e
    · refine ⟨s, Ev_shift ?_, ⟨by omega, by omega, hc⟩, ⟨s0, s1⟩, hb⟩
      simp only [spec_l01From.l0, if_pos hi, if_neg c2]
      exact Ev.now _
theorem from_ev (c : List Int) (hc : c.length ≤ 4096) (hb : ∀ x ∈ c, 0 ≤ x ∧ x ≤ 255) : ∃ s, Ev (fun k => spec_l01From.f k c) (c, 0, s) ∧ Src c 0 s := by
  unfold spec_l01From.f
  exact from_l0 c hc hb c.length 0 61043 (by omega) (by omega) (by omega) (by omega)
theorem u8_rng {l : List Int} (h : ∀ x ∈ l, (Lit.int .u8 x).wf = true) : ∀ x ∈ l, 0 ≤ x ∧ x ≤ 255 := by
  intro x hx
  have := h x hx
  simp only [Lit.wf, Bool.and_eq_true, decide_eq_true_eq] at this
  have h1 : IntKind.min .u8 = 0 := by decide
  have h2 : IntKind.max .u8 = 255 := by decide
  rw [h1, h2] at this
  exact this
theorem likeInts_l0 (l : List Int) (hl : l.length ≤ 10000000) : ∀ (d : Nat) (i : Int), 0 ≤ i → i + d = l.length → Ev (fun k => laws_likeInts.l0 k l l i) true
  | 0, i, h0, hd => by
    refine Ev_shift ?_
    simp only [laws_likeInts.l0, if_neg (show ¬ i < (l.length : Int) by omega)]
    exact Ev.now _
  | d + 1, i, h0, hd => by
    refine Ev_shift ?_
    simp only [laws_likeInts.l0, if_pos (show i < (l.length : Int) by omega), if_pos h0, if_true, w64 (n := i + 1) (by omega)]
    exact likeInts_l0 l hl d (i + 1) (by omega) (by omega)
theorem likeInts_self (l : List Int) (hl : l.length ≤ 10000000) : Ev (fun k => laws_likeInts.f k l l) true := by
  unfold laws_likeInts.f
  simp only [if_true]
  exact likeInts_l0 l hl l.length 0 (by omega) (by omega)
theorem idxF_mem (p : Int → Bool) : ∀ (d : Nat) (i x : Int), x ∈ idxF p d i ↔ i ≤ x ∧ x < i + d ∧ p x = true
  | 0, i, x => by simp [idxF]; omega
  | d + 1, i, x => by
    unfold idxF
    have ih := idxF_mem p d (i + 1) x
    by_cases hp : p i = true
    · rw [if_pos hp, List.mem_cons, ih]
      constructor
      · rintro (rfl | h)
        · exact ⟨by omega, by omega, hp⟩
        · exact ⟨by omega, by omega, h.2.2⟩
      · rintro ⟨a, b, c⟩
        by_cases e : x = i
        · exact .inl e
        · exact .inr ⟨by omega, by omega, c⟩
    · rw [if_neg hp, ih]
      constructor
      · rintro ⟨a, b, c⟩
        exact ⟨by omega, by omega, c⟩
      · rintro ⟨a, b, c⟩
        by_cases e : x = i
        · rw [e] at c
          exact absurd c hp
        · exact ⟨by omega, by omega, c⟩
def PPlace (x y : Int) : Prop := 0 ≤ x ∧ x ≤ 100000 ∧ 0 ≤ y ∧ y ≤ 100000
instance (x y : Int) : Decidable (PPlace x y) := by unfold PPlace; infer_instance
def PArea (k x y w d : Int) : Prop := 0 ≤ k ∧ k ≤ 3 ∧ 0 ≤ x ∧ x ≤ 100000 ∧ 0 ≤ y ∧ y ≤ 100000 ∧ 1 ≤ w ∧ w ≤ 100000 - x ∧ 1 ≤ d ∧ d ≤ 100000 - y
instance (k x y w d : Int) : Decidable (PArea k x y w d) := by unfold PArea; infer_instance
theorem spec_place_eq (x y : Int) : spec_l15Place.f x y = some (decide (PPlace x y)) := by
  unfold spec_l15Place.f PPlace
  simp only [l01In_eq, Option.bind_some]
  rw [dec_and]
  congr 2
  exact propext ⟨fun h => by omega, fun h => by omega⟩
theorem impl_place_eq (x y : Int) : impl_isPlace.f x y = some (decide (PPlace x y)) := by
  unfold impl_isPlace.f PPlace
  simp only [within_eq, Option.bind_some]
  rw [dec_and]
  congr 2
  exact propext ⟨fun h => by omega, fun h => by omega⟩
theorem impl_isKind_eq (k : Int) : impl_isKind.f k = some (decide (0 ≤ k ∧ k ≤ 3)) := by
  unfold impl_isKind.f
  rw [within_eq]; rfl
theorem spec_IsArea_eq (k x y w d : Int) : spec_IsArea.f k x y w d = some (decide (PArea k x y w d)) := by
  unfold spec_IsArea.f
  simp only [l01In_eq, spec_place_eq, Option.bind_some]
  by_cases h1 : 0 ≤ k ∧ k ≤ 3
  · rw [if_pos (decide_eq_true h1)]
    by_cases h2 : PPlace x y
    · rw [if_pos (decide_eq_true h2)]
      unfold PPlace at h2
      rw [w64 (by omega), w64 (by omega), dec_and]
      congr 2
      unfold PArea
      exact propext ⟨fun h => by omega, fun h => by omega⟩
    · rw [if_neg (by simpa using h2), decide_eq_false (fun h => h2 (by unfold PArea at h; unfold PPlace; omega))]
  · rw [if_neg (by simpa using h1), decide_eq_false (fun h => h1 (by unfold PArea at h; omega))]
theorem impl_IsArea_eq (k x y w d : Int) : impl_IsArea.f k x y w d = some (decide (PArea k x y w d)) := by
  unfold impl_IsArea.f
  simp only [within_eq, impl_isKind_eq, impl_place_eq, Option.bind_some]
  by_cases h1 : 0 ≤ k ∧ k ≤ 3
  · rw [if_pos (decide_eq_true h1)]
    by_cases h2 : PPlace x y
    · rw [if_pos (decide_eq_true h2)]
      unfold PPlace at h2
      rw [w64 (by omega), w64 (by omega), dec_and]
      congr 2
      unfold PArea
      exact propext ⟨fun h => by omega, fun h => by omega⟩
    · rw [if_neg (by simpa using h2), decide_eq_false (fun h => h2 (by unfold PArea at h; unfold PPlace; omega))]
  · rw [if_neg (by simpa using h1), decide_eq_false (fun h => h1 (by unfold PArea at h; omega))]
def PSite (l : List S83) : Prop := l.length ≤ 10 ∧ ∀ a ∈ l, PArea a.f0 a.f1 a.f2 a.f3 a.f4
instance (l : List S83) : Decidable (PSite l) := by unfold PSite; infer_instance
theorem spec_IsSite_l0 (l : List S83) (hn : l.length ≤ 140737488351232) : ∀ (s : List S83) (i : Int) (k : Nat), 0 ≤ i → l.drop i.toNat = s → s.length < k → spec_IsSite.l0 k l i = some (decide (l.length ≤ 10 ∧ ∀ a ∈ s, PArea a.f0 a.f1 a.f2 a.f3 a.f4))
  | [], i, k, h0, h, hk => by
    obtain ⟨k, rfl⟩ : ∃ m, k = m + 1 := ⟨k - 1, by omega⟩
    simp only [spec_IsSite.l0]
    rw [if_neg (drop_nil h0 h)]
    congr 2
    simp
    omega
  | a :: s, i, k, h0, h, hk => by
    obtain ⟨k, rfl⟩ : ∃ m, k = m + 1 := ⟨k - 1, by simp at hk; omega⟩
    obtain ⟨h1, h2, h3⟩ := drop_cons z83 h0 h
    have h2' : rd_T83 l i = a := h2
    simp only [spec_IsSite.l0]
    rw [if_pos h1, if_pos h0, h2', spec_IsArea_eq, Option.bind_some]
    by_cases hp : PArea a.f0 a.f1 a.f2 a.f3 a.f4
    · rw [if_pos (decide_eq_true hp), w64 (by omega), spec_IsSite_l0 l hn s (i + 1) k (by omega) h3 (by simpa using hk)]
      congr 2
      simp [hp]
    · rw [if_neg (by simpa using hp)]
      congr 1
      simp [hp]
theorem spec_IsSite_f (l : List S83) (hn : l.length ≤ 140737488351232) (k : Nat) (hk : l.length < k) : spec_IsSite.f k l = some (decide (PSite l)) := by
  unfold spec_IsSite.f PSite
  exact spec_IsSite_l0 l hn l 0 k (by omega) rfl hk
theorem impl_IsSite_l0 (l : List S83) (hn : l.length ≤ 140737488351232) : ∀ (s : List S83) (i : Int) (k : Nat), 0 ≤ i → l.drop i.toNat = s → s.length < k → impl_IsSite.l0 k l l.length i = some (decide (∀ a ∈ s, PArea a.f0 a.f1 a.f2 a.f3 a.f4))
  | [], i, k, h0, h, hk => by
    obtain ⟨k, rfl⟩ : ∃ m, k = m + 1 := ⟨k - 1, by omega⟩
    simp only [impl_IsSite.l0]
    rw [if_neg (drop_nil h0 h)]
    simp
  | a :: s, i, k, h0, h, hk => by
    obtain ⟨k, rfl⟩ : ∃ m, k = m + 1 := ⟨k - 1, by simp at hk; omega⟩
    obtain ⟨h1, h2, h3⟩ := drop_cons z83 h0 h
    have h2' : rd_T83 l i = a := h2
    simp only [impl_IsSite.l0]
    rw [if_pos h1, if_pos h0, if_pos h1, h2', impl_IsArea_eq, Option.bind_some]
    by_cases hp : PArea a.f0 a.f1 a.f2 a.f3 a.f4
    · rw [if_pos (decide_eq_true hp), w64 (by omega), impl_IsSite_l0 l hn s (i + 1) k (by omega) h3 (by simpa using hk)]
      congr 2
      simp [hp]
    · rw [if_neg (by simpa using hp)]
      congr 1
      simp [hp]
theorem impl_IsSite_f (l : List S83) (hn : l.length ≤ 140737488351232) (k : Nat) (hk : l.length < k) : impl_IsSite.f k l = some (decide (PSite l)) := by
  unfold impl_IsSite.f
  rw [impl_IsSite_l0 l hn l 0 k (by omega) rfl hk]
  by_cases h : (l.length : Int) > 10
  · rw [if_pos h, decide_eq_false (p := PSite l) (fun hh => by have := hh.1; omega)]
  · rw [if_neg h]
    congr 1
    exact decide_eq_decide.2 ⟨fun hh => (⟨by omega, hh⟩ : PSite l), fun hh => hh.2⟩
/-- How far a coordinate is from a range. -/
def PAway (x a w : Int) : Int := max (max 0 (a - x)) (x - a - w)
def PSq (X Y W D x y : Int) : Int := PAway x X W * PAway x X W + PAway y Y D * PAway y Y D
theorem PAway_bd {x a w : Int} (h : 0 ≤ x ∧ x ≤ 100000) (ha : 0 ≤ a ∧ a ≤ 100000) (hw : 1 ≤ w ∧ w ≤ 100000 - a) : 0 ≤ PAway x a w ∧ PAway x a w ≤ 100000 := by
  unfold PAway
  omega
theorem sq_bd {d : Int} (h : 0 ≤ d ∧ d ≤ 100000) : 0 ≤ d * d ∧ d * d ≤ 10000000000 := by
  have h1 : d * d ≤ 100000 * d := Int.mul_le_mul_of_nonneg_right h.2 h.1
  have h2 : 0 ≤ d * d := Int.mul_nonneg h.1 h.1
  omega
theorem spec_away_eq {x a w : Int} (h : 0 ≤ x ∧ x ≤ 100000) (ha : 0 ≤ a ∧ a ≤ 100000) (hw : 1 ≤ w ∧ w ≤ 100000 - a) : spec_l15Away.f x a (wrap64 (a + w)) = some (PAway x a w) := by
  unfold spec_l15Away.f PAway
  rw [w64 (n := a + w) (by omega), w64 (n := a - x) (by omega), w64 (n := x - (a + w)) (by omega), mx_eq, mx_eq]
  congr 1
  omega
theorem spec_Square_eq {K X Y W D x y : Int} (hp : PPlace x y) (ha : PPlace X Y) (hw : 1 ≤ W ∧ W ≤ 100000 - X) (hd : 1 ≤ D ∧ D ≤ 100000 - Y) : spec_l15Square.f K X Y W D x y = some (PSq X Y W D x y) := by
  unfold PPlace at *
  unfold spec_l15Square.f PSq
  rw [spec_away_eq (by omega) (by omega) hw, Option.bind_some, spec_away_eq (by omega) (by omega) hd, Option.bind_some]
  have h1 := sq_bd (PAway_bd (x := x) (a := X) (w := W) (by omega) (by omega) hw)
  have h2 := sq_bd (PAway_bd (x := y) (a := Y) (w := D) (by omega) (by omega) hd)
  rw [w64 (n := PAway x X W * PAway x X W) (by omega), w64 (n := PAway y Y D * PAway y Y D) (by omega), w64 (by omega)]
theorem impl_square_eq {K X Y W D x y : Int} (hp : PPlace x y) (ha : PPlace X Y) (hw : 1 ≤ W ∧ W ≤ 100000 - X) (hd : 1 ≤ D ∧ D ≤ 100000 - Y) : impl_squareTo.f K X Y W D x y = some (PSq X Y W D x y) := by
  unfold PPlace at *
  unfold impl_squareTo.f
  rw [w64 (n := X - x) (by omega), w64 (n := x - X) (by omega), w64 (n := x - X - W) (by omega), w64 (n := Y - y) (by omega), w64 (n := y - Y) (by omega), w64 (n := y - Y - D) (by omega)]
  simp only [mx_eq]
  have h1 := sq_bd (PAway_bd (x := x) (a := X) (w := W) (by omega) (by omega) hw)
  have h2 := sq_bd (PAway_bd (x := y) (a := Y) (w := D) (by omega) (by omega) hd)
  show some (wrap64 (wrap64 (PAway x X W * PAway x X W) + wrap64 (PAway y Y D * PAway y Y D))) = some (PSq X Y W D x y)
  rw [w64 (n := PAway x X W * PAway x X W) (by omega), w64 (n := PAway y Y D * PAway y Y D) (by omega), w64 (by omega)]
  rfl
theorem spec_l15Code_f (l : List S83) (hn : l.length ≤ 140737488351232) (k : Nat) (hk : l.length < k) (kind x y : Int) : spec_l15Code.f k l kind x y = some (if PSite l then (if PPlace x y ∧ 0 ≤ kind ∧ kind ≤ 3 then 0 else 2) else 1) := by
  unfold spec_l15Code.f
  rw [spec_IsSite_f l hn k hk, Option.bind_some]
  by_cases h : PSite l
  · rw [if_pos (decide_eq_true h), if_pos h, spec_place_eq, Option.bind_some]
    by_cases h2 : PPlace x y
    · rw [if_pos (decide_eq_true h2), l01In_eq, Option.bind_some]
      by_cases h3 : 0 ≤ kind ∧ kind ≤ 3
      · rw [if_pos (decide_eq_true h3), if_pos ⟨h2, h3⟩]
      · rw [if_neg (by simpa using h3), if_neg (fun h => h3 h.2)]
    · rw [if_neg (by simpa using h2), if_neg (fun h => h2 h.1)]
  · rw [if_neg (by simpa using h), if_neg h]
theorem impl_IsSite_ev (l : List S83) (hn : l.length ≤ 140737488351232) : Ev (fun k => impl_IsSite.f k l) (decide (PSite l)) := ⟨l.length + 1, fun k hk => impl_IsSite_f l hn k (by omega)⟩
theorem area_at {l : List S83} (h : PSite l) {i : Int} (h0 : 0 ≤ i) (h1 : i < l.length) : PArea (rd_T83 l i).f0 (rd_T83 l i).f1 (rd_T83 l i).f2 (rd_T83 l i).f3 (rd_T83 l i).f4 := by
  have hlt : i.toNat < l.length := by omega
  have e : rd_T83 l i = l[i.toNat] := by
    show l.getD i.toNat _ = _
    rw [List.getD_eq_getElem?_getD, List.getElem?_eq_getElem hlt]
    rfl
  rw [e]
  exact h.2 _ (List.getElem_mem hlt)
/-- The square distance of a place from the area with an index. -/
def sqAt (l : List S83) (x y i : Int) : Int := PSq (rd_T83 l i).f1 (rd_T83 l i).f2 (rd_T83 l i).f3 (rd_T83 l i).f4 x y
theorem spec_sqAt {l : List S83} (h : PSite l) {x y : Int} (hp : PPlace x y) {i : Int} (h0 : 0 ≤ i) (h1 : i < l.length) : spec_l15Square.f (rd_T83 l i).f0 (rd_T83 l i).f1 (rd_T83 l i).f2 (rd_T83 l i).f3 (rd_T83 l i).f4 x y = some (sqAt l x y i) := by
  have ha := area_at h h0 h1
  unfold PArea at ha
  exact spec_Square_eq hp (by unfold PPlace; omega) (by omega) (by omega)
theorem impl_sqAt {l : List S83} (h : PSite l) {x y : Int} (hp : PPlace x y) {i : Int} (h0 : 0 ≤ i) (h1 : i < l.length) : impl_squareTo.f (rd_T83 l i).f0 (rd_T83 l i).f1 (rd_T83 l i).f2 (rd_T83 l i).f3 (rd_T83 l i).f4 x y = some (sqAt l x y i) := by
  have ha := area_at h h0 h1
  unfold PArea at ha
  exact impl_square_eq hp (by unfold PPlace; omega) (by omega) (by omega)
theorem spec_l15Code_ev (l : List S83) (hn : l.length ≤ 140737488351232) (kind x y : Int) : Ev (fun k => spec_l15Code.f k l kind x y) (if PSite l then (if PPlace x y ∧ 0 ≤ kind ∧ kind ≤ 3 then 0 else 2) else 1) := ⟨l.length + 1, fun k hk => spec_l15Code_f l hn k (by omega) kind x y⟩
theorem good15_some {c : List Int} {a s : Int} (h : Src c a s) : ∃ k x y w d a' s', spec_l15Good.f c a s = some (k, x, y, w, d, a', s') ∧ Src c a' s' := by
  obtain ⟨v1, a1, s1, e1, h1, _, _⟩ := next_some h 4 (by omega)
  obtain ⟨v2, a2, s2, e2, h2, _, _⟩ := next_some h1 2000 (by omega)
  obtain ⟨v3, a3, s3, e3, h3, _, _⟩ := next_some h2 2000 (by omega)
  obtain ⟨v4, a4, s4, e4, h4, _, _⟩ := next_some h3 400 (by omega)
  obtain ⟨v5, a5, s5, e5, h5, _, _⟩ := next_some h4 400 (by omega)
  refine ⟨v1, v2, v3, wrap64 (1 + v4), wrap64 (1 + v5), a5, s5, ?_, h5⟩
  unfold spec_l15Good.f
  simp only [e1, e2, e3, e4, e5, Option.bind_some]
theorem draw15_some {c : List Int} {a s : Int} (h : Src c a s) : ∃ k x y w d a' s', spec_l15Draw.f c a s = some (k, x, y, w, d, a', s') ∧ Src c a' s' := by
  obtain ⟨k, x, y, w, d, a1, s1, e1, h1⟩ := good15_some h
  obtain ⟨v, a2, s2, e2, h2, _, _⟩ := next_some h1 60 (by omega)
  unfold spec_l15Draw.f
  simp only [e1, e2, Option.bind_some]
  by_cases c0 : v = 0
  · obtain ⟨p, a3, s3, e3, h3, _⟩ := pick_some h2 [(-1), 4] (by simp) (by simp)
    simp only [if_pos c0, e3, Option.bind_some]
    exact ⟨_, _, _, _, _, a3, s3, rfl, h3⟩
  · by_cases c1 : v = 1
    · obtain ⟨p, a3, s3, e3, h3, _⟩ := pick_some h2 [0, wrap64 (100000 - x), wrap64 ((wrap64 (100000 - x)) + 1)] (by simp) (by simp)
      simp only [if_neg c0, if_pos c1, e3, Option.bind_some]
      exact ⟨_, _, _, _, _, a3, s3, rfl, h3⟩
    · by_cases c2 : v = 2
      · obtain ⟨p, a3, s3, e3, h3, _⟩ := pick_some h2 [(-1), 0, 100000] (by simp) (by simp)
        simp only [if_neg c0, if_neg c1, if_pos c2, e3, Option.bind_some]
        exact ⟨_, _, _, _, _, a3, s3, rfl, h3⟩
      · simp only [if_neg c0, if_neg c1, if_neg c2]
        exact ⟨_, _, _, _, _, a2, s2, rfl, h2⟩
theorem fill15_l1 (c : List Int) : ∀ (d : Nat) (out : List S83) (a s : Int), Src c a s → 12 ≤ out.length + d → out.length ≤ 12 → ∃ l a' s', Ev (fun k => spec_l15Site.l1 k out c a s) (l, a', s') ∧ Src c a' s' ∧ l.length ≤ 30
  | d, out, a, s, h, hd, ho => by
    obtain ⟨v, a1, s1, e1, h1, v0, v1⟩ := next_some h 2 (by omega)
    by_cases c1 : (out.length : Int) < 10 + v
    · cases d with
      | zero => omega
      | succ d =>
        obtain ⟨k, x, y, w, dd, a2, s2, e2, h2⟩ := good15_some h1
        obtain ⟨l, a', s', e, hs, hl⟩ := fill15_l1 c d (out ++ [(⟨k, x, y, w, dd⟩ : S83)]) a2 s2 h2 (by simp; omega) (by simp; omega)
        refine ⟨l, a', s', Ev_shift ?_, hs, hl⟩
        simp only [spec_l15Site.l1, e1, e2, Option.bind_some, w64 (n := 10 + v) (by omega), if_pos c1, if_pos (show out.length < 3518437208883 by omega)]
        exact e
    · refine ⟨out, a1, s1, Ev_shift ?_, h1, by omega⟩
      simp only [spec_l15Site.l1, e1, Option.bind_some, w64 (n := 10 + v) (by omega), if_neg c1]
      exact Ev.now _
theorem site15_l0 (c : List Int) : ∀ (d : Nat) (out : List S83) (a s : Int), Src c a s → out.length + d ≤ 6 → ∃ l a' s', Ev (fun k => spec_l15Site.l0 k out d c a s) (l, a', s') ∧ Src c a' s' ∧ l.length ≤ 30
  | 0, out, a, s, h, hd => by
    obtain ⟨v, a1, s1, e1, h1, v0, v1⟩ := next_some h 30 (by omega)
    by_cases c0 : v = 0
    · obtain ⟨l, a', s', e, hs, hl⟩ := fill15_l1 c 12 out a1 s1 h1 (by omega) (by omega)
      refine ⟨l, a', s', Ev_shift ?_, hs, hl⟩
      simp only [spec_l15Site.l0, if_neg (show ¬ ((0 : Nat) : Int) > 0 by decide), e1, Option.bind_some, if_pos c0]
      exact e
    · refine ⟨out, a1, s1, Ev_shift ?_, h1, by omega⟩
      simp only [spec_l15Site.l0, if_neg (show ¬ ((0 : Nat) : Int) > 0 by decide), e1, Option.bind_some, if_neg c0]
      exact Ev.now _
  | d + 1, out, a, s, h, hd => by
    obtain ⟨k, x, y, w, dd, a2, s2, e2, h2⟩ := draw15_some h
    obtain ⟨l, a', s', e, hs, hl⟩ := site15_l0 c d (out ++ [(⟨k, x, y, w, dd⟩ : S83)]) a2 s2 h2 (by simp; omega)
    refine ⟨l, a', s', Ev_shift ?_, hs, hl⟩
    simp only [spec_l15Site.l0, if_pos (show ((d + 1 : Nat) : Int) > 0 by omega), e2, Option.bind_some, if_pos (show out.length < 3518437208883 by omega), w64 (n := ((d + 1 : Nat) : Int) - 1) (by omega), show ((d + 1 : Nat) : Int) - 1 = (d : Int) by omega, w64 (n := (d : Int)) (by omega)]
    exact e
theorem site15_ev {c : List Int} {a s : Int} (h : Src c a s) : ∃ l a' s', Ev (fun k => spec_l15Site.f k c a s) (l, a', s') ∧ Src c a' s' ∧ l.length ≤ 30 := by
  obtain ⟨v, a1, s1, e1, h1, v0, v1⟩ := next_some h 6 (by omega)
  obtain ⟨l, a', s', e, hs, hl⟩ := site15_l0 c v.toNat [] a1 s1 h1 (by simp; omega)
  rw [show ((v.toNat : Nat) : Int) = v by omega] at e
  refine ⟨l, a', s', ?_, hs, hl⟩
  unfold spec_l15Site.f
  simp only [e1, Option.bind_some]
  exact e
theorem at15_some {c : List Int} {a s : Int} (h : Src c a s) : ∃ x y a' s', spec_l15At.f c a s = some (x, y, a', s') ∧ Src c a' s' := by
  obtain ⟨v, a1, s1, e1, h1, v0, v1⟩ := next_some h 24 (by omega)
  unfold spec_l15At.f
  simp only [e1, Option.bind_some]
  by_cases c0 : v = 0
  · obtain ⟨p, a2, s2, e2, h2, _⟩ := pick_some h1 [(-1), 0, 100000, 100001] (by simp) (by simp)
    obtain ⟨q, a3, s3, e3, h3, _, _⟩ := next_some h2 2000 (by omega)
    simp only [if_pos c0, e2, e3, Option.bind_some]
    exact ⟨_, _, a3, s3, rfl, h3⟩
  · obtain ⟨p, a2, s2, e2, h2, _, _⟩ := next_some h1 2400 (by omega)
    obtain ⟨q, a3, s3, e3, h3, _, _⟩ := next_some h2 2400 (by omega)
    simp only [if_neg c0, e2, e3, Option.bind_some]
    exact ⟨_, _, a3, s3, rfl, h3⟩
theorem hasIntd_l0 (l : List Int) (hn : l.length ≤ 1000000) (x : Int) : ∀ (s : List Int) (i : Int), 0 ≤ i → l.drop i.toNat = s → Ev (fun k => laws_hasInt.l0 k l x i) (decide (x ∈ s))
  | [], i, h0, h => by
    refine Ev_shift ?_
    simp only [laws_hasInt.l0, if_neg (drop_nil h0 h)]
    exact Ev_some (by simp)
  | a :: s, i, h0, h => by
    refine Ev_shift ?_
    obtain ⟨h1, h2, h3⟩ := drop_cons 0 h0 h
    have h2' : rd l i = a := h2
    by_cases e : a = x
    · simp only [laws_hasInt.l0, if_pos h1, if_pos h0, h2', if_pos e]
      exact Ev_some (by simp [e])
    · simp only [laws_hasInt.l0, if_pos h1, if_pos h0, h2', if_neg e, w64 (n := i + 1) (by omega)]
      refine Ev_eq (hasIntd_l0 l hn x s (i + 1) (by omega) h3) ?_
      simp [Ne.symm e]
theorem hasInt_dec (l : List Int) (hn : l.length ≤ 1000000) (x : Int) : Ev (fun k => laws_hasInt.f k l x) (decide (x ∈ l)) := by
  unfold laws_hasInt.f
  exact hasIntd_l0 l hn x l 0 (by omega) rfl
theorem sqToi_ev (k x y w d p q : Int) : ∃ s c, impl_SquareTo.f k x y w d p q = some (s, c) ∧ (PArea k x y w d → PPlace p q → s = PSq x y w d p q ∧ c = 0) := by
  unfold impl_SquareTo.f
  by_cases h : PArea k x y w d
  · by_cases h2 : PPlace p q
    · have ha := h
      unfold PArea at ha
      simp only [impl_IsArea_eq, impl_place_eq, Option.bind_some, decide_eq_true h, decide_eq_true h2, if_true, impl_square_eq h2 (show PPlace x y by unfold PPlace; omega) (show 1 ≤ w ∧ w ≤ 100000 - x by omega) (show 1 ≤ d ∧ d ≤ 100000 - y by omega)]
      exact ⟨_, _, rfl, fun _ _ => ⟨rfl, rfl⟩⟩
    · simp only [impl_IsArea_eq, impl_place_eq, Option.bind_some, decide_eq_true h, decide_eq_false h2, if_true, Bool.false_eq_true, if_false]
      exact ⟨_, _, rfl, fun _ x => absurd x h2⟩
  · simp only [impl_IsArea_eq, Option.bind_some, decide_eq_false h, Bool.false_eq_true, if_false]
    exact ⟨_, _, rfl, fun x => absurd x h⟩
/-- A demand is right at its place. -/
def PT (l : List S112) (i : Int) : Prop := (0 ≤ (rd_T112 l i).f0 ∧ (rd_T112 l i).f0 ≤ 3) ∧ (20 ≤ (rd_T112 l i).f1 ∧ (rd_T112 l i).f1 ≤ 300) ∧ (0 ≤ (rd_T112 l i).f2 ∧ (rd_T112 l i).f2 ≤ 10000) ∧
  (0 < i → (rd_T112 l (i - 1)).f0 < (rd_T112 l i).f0 ∨ (rd_T112 l (i - 1)).f0 = (rd_T112 l i).f0 ∧ (rd_T112 l (i - 1)).f1 < (rd_T112 l i).f1 ∧ (rd_T112 l (i - 1)).f2 ≤ (rd_T112 l i).f2)
def PTab (l : List S112) : Prop := l.length ≤ 12 ∧ ∀ j : Int, 0 ≤ j → j < l.length → PT l j
theorem before_eq (a b c d e f : Int) : spec_l16Before.f a b c d e f = some (decide (a < d ∨ a = d ∧ b < e)) := by
  unfold spec_l16Before.f
  by_cases h : a < d
  · simp [h]
  · by_cases h2 : a = d <;> simp [h, h2]
theorem spec_IsTable_j1 (l : List S112) (hn : l.length ≤ 140737488351232) (i : Int) (h0 : 0 ≤ i) (h1 : i < l.length)
    (hf : (0 ≤ (rd_T112 l i).f0 ∧ (rd_T112 l i).f0 ≤ 3) ∧ (20 ≤ (rd_T112 l i).f1 ∧ (rd_T112 l i).f1 ≤ 300) ∧ (0 ≤ (rd_T112 l i).f2 ∧ (rd_T112 l i).f2 ≤ 10000)) :
    (PT l i → ∀ r, Ev (fun k => spec_IsTable.l0 k l (i + 1)) r → Ev (fun k => spec_IsTable.j1 k l i false (rd_T112 l i).f0 (rd_T112 l i).f1 (rd_T112 l i).f2) r) ∧
    (¬ PT l i → Ev (fun k => spec_IsTable.j1 k l i false (rd_T112 l i).f0 (rd_T112 l i).f1 (rd_T112 l i).f2) false) := by
  by_cases hi : i > 0
  · have w1 : wrap64 (i - 1) = i - 1 := w64 (by omega)
    have w2 : wrap64 (i + 1) = i + 1 := w64 (by omega)
    refine ⟨fun hp r hr => ?_, fun hp => ?_⟩
    · refine Ev_shift ?_
      simp only [spec_IsTable.j1, Bool.false_eq_true, if_false, if_pos hi, w1, w2, if_pos (show 0 ≤ i - 1 by omega), if_pos (show i - 1 < (l.length : Int) by omega), before_eq, Option.bind_some, decide_eq_true_eq]
      rcases hp.2.2.2 hi with h | ⟨h, h2, h3⟩
      · simp only [if_pos (show (rd_T112 l (i - 1)).f0 < (rd_T112 l i).f0 ∨ (rd_T112 l (i - 1)).f0 = (rd_T112 l i).f0 ∧ (rd_T112 l (i - 1)).f1 < (rd_T112 l i).f1 from .inl h), if_neg (show ¬ (rd_T112 l (i - 1)).f0 = (rd_T112 l i).f0 by omega)]
        exact hr
      · simp only [if_pos (show (rd_T112 l (i - 1)).f0 < (rd_T112 l i).f0 ∨ (rd_T112 l (i - 1)).f0 = (rd_T112 l i).f0 ∧ (rd_T112 l (i - 1)).f1 < (rd_T112 l i).f1 from .inr ⟨h, h2⟩), if_pos h, if_neg (show ¬ (rd_T112 l (i - 1)).f2 > (rd_T112 l i).f2 by omega)]
        exact hr
    · refine Ev_shift ?_
      simp only [spec_IsTable.j1, Bool.false_eq_true, if_false, if_pos hi, w1, w2, if_pos (show 0 ≤ i - 1 by omega), if_pos (show i - 1 < (l.length : Int) by omega), before_eq, Option.bind_some, decide_eq_true_eq]
      by_cases hb : (rd_T112 l (i - 1)).f0 < (rd_T112 l i).f0 ∨ (rd_T112 l (i - 1)).f0 = (rd_T112 l i).f0 ∧ (rd_T112 l (i - 1)).f1 < (rd_T112 l i).f1
      · have h2 : (rd_T112 l (i - 1)).f0 = (rd_T112 l i).f0 := by
          rcases hb with h | h
          · exact absurd ⟨hf.1, hf.2.1, hf.2.2, fun _ => .inl h⟩ hp
          · exact h.1
        have h3 : (rd_T112 l (i - 1)).f2 > (rd_T112 l i).f2 := by
          rcases hb with h | h
          · omega
          · by_cases h4 : (rd_T112 l (i - 1)).f2 ≤ (rd_T112 l i).f2
            · exact absurd ⟨hf.1, hf.2.1, hf.2.2, fun _ => .inr ⟨h.1, h.2, h4⟩⟩ hp
            · omega
        simp only [if_pos hb, if_pos h2, if_pos h3]
        exact Ev.now _
      · simp only [if_neg hb]
        exact Ev.now _
  · refine ⟨fun hp r hr => ?_, fun hp => absurd ⟨hf.1, hf.2.1, hf.2.2, fun h => absurd h hi⟩ hp⟩
    refine Ev_shift ?_
    simp only [spec_IsTable.j1, Bool.false_eq_true, if_false, if_neg hi, w64 (n := i + 1) (by omega)]
    exact hr
theorem spec_IsTable_ev (l : List S112) (hn : l.length ≤ 140737488351232) : Ev (fun k => spec_IsTable.f k l) (tt (PTab l)) := by
  unfold spec_IsTable.f
  have bad : ∀ i a b c, Ev (fun k => spec_IsTable.j1 k l i true a b c) false := fun i a b c => by
    refine Ev_shift ?_
    simp only [spec_IsTable.j1, if_true]
    exact Ev.now _
  have := ev_all (L := fun i k => spec_IsTable.l0 k l i) (P := PT l) (n := l.length) (fin := decide (l.length ≤ 12)) (fun i h0 h1 hp r hr => ?_) (fun i h0 h1 hp => ?_) ?_ l.length 0 (by omega) (by omega)
  · refine Ev_eq this ?_
    rw [← tt_dec, tt_and]
    exact tt_iff ⟨fun h => ⟨h.1, fun j h0 h1 => h.2 j h0 h1⟩, fun h => ⟨h.1, fun j h0 h1 => h.2 j h0 h1⟩⟩
  · refine Ev_shift ?_
    simp only [spec_IsTable.l0, if_pos h1, if_pos h0, l01In_eq, Option.bind_some, decide_eq_true_eq, if_pos hp.1, if_pos hp.2.1, decide_eq_true hp.2.2.1, Bool.not_true]
    exact (spec_IsTable_j1 l hn i h0 h1 ⟨hp.1, hp.2.1, hp.2.2.1⟩).1 hp r hr
  · refine Ev_shift ?_
    simp only [spec_IsTable.l0, if_pos h1, if_pos h0, l01In_eq, Option.bind_some, decide_eq_true_eq]
    by_cases c1 : 0 ≤ (rd_T112 l i).f0 ∧ (rd_T112 l i).f0 ≤ 3
    · by_cases c2 : 20 ≤ (rd_T112 l i).f1 ∧ (rd_T112 l i).f1 ≤ 300
      · by_cases c3 : 0 ≤ (rd_T112 l i).f2 ∧ (rd_T112 l i).f2 ≤ 10000
        · simp only [if_pos c1, if_pos c2, decide_eq_true c3, Bool.not_true]
          exact (spec_IsTable_j1 l hn i h0 h1 ⟨c1, c2, c3⟩).2 hp
        · simp only [if_pos c1, if_pos c2, decide_eq_false c3, Bool.not_false]
          exact bad _ _ _ _
      · simp only [if_pos c1, if_neg c2]
        exact bad _ _ _ _
    · simp only [if_neg c1]
      exact bad _ _ _ _
  · refine Ev_shift ?_
    simp only [spec_IsTable.l0, if_neg (show ¬ (l.length : Int) < l.length by omega)]
    exact Ev_some (by congr 1; exact propext ⟨fun h => by omega, fun h => by omega⟩)
theorem impl_IsTable_j1 (l : List S112) (hn : l.length ≤ 140737488351232) (i : Int) (h0 : 0 ≤ i) (h1 : i < l.length)
    (hf : (0 ≤ (rd_T112 l i).f0 ∧ (rd_T112 l i).f0 ≤ 3) ∧ (20 ≤ (rd_T112 l i).f1 ∧ (rd_T112 l i).f1 ≤ 300) ∧ (0 ≤ (rd_T112 l i).f2 ∧ (rd_T112 l i).f2 ≤ 10000)) :
    (PT l i → ∀ r, Ev (fun k => impl_IsTable.l0 k l l l.length (i + 1)) r → Ev (fun k => impl_IsTable.j1 k l i l l.length i false (rd_T112 l i).f0 (rd_T112 l i).f1 (rd_T112 l i).f2) r) ∧
    (¬ PT l i → Ev (fun k => impl_IsTable.j1 k l i l l.length i false (rd_T112 l i).f0 (rd_T112 l i).f1 (rd_T112 l i).f2) false) := by
  by_cases hi : i > 0
  · have w1 : wrap64 (i - 1) = i - 1 := w64 (by omega)
    have w2 : wrap64 (i + 1) = i + 1 := w64 (by omega)
    refine ⟨fun hp r hr => ?_, fun hp => ?_⟩
    · refine Ev_shift ?_
      simp only [impl_IsTable.j1, Bool.false_eq_true, if_false, if_neg (show ¬ i = 0 by omega), w1, w2, if_pos (show 0 ≤ i - 1 by omega), if_pos (show i - 1 < (l.length : Int) by omega)]
      rcases hp.2.2.2 hi with h | ⟨h, h2, h3⟩
      · simp only [if_neg (show ¬ (rd_T112 l (i - 1)).f0 > (rd_T112 l i).f0 by omega), if_neg (show ¬ (rd_T112 l (i - 1)).f0 = (rd_T112 l i).f0 by omega)]
        exact hr
      · simp only [if_neg (show ¬ (rd_T112 l (i - 1)).f0 > (rd_T112 l i).f0 by omega), if_pos h, if_neg (show ¬ (rd_T112 l (i - 1)).f1 ≥ (rd_T112 l i).f1 by omega), if_neg (show ¬ (rd_T112 l (i - 1)).f2 > (rd_T112 l i).f2 by omega)]
        exact hr
    · refine Ev_shift ?_
      simp only [impl_IsTable.j1, Bool.false_eq_true, if_false, if_neg (show ¬ i = 0 by omega), w1, w2, if_pos (show 0 ≤ i - 1 by omega), if_pos (show i - 1 < (l.length : Int) by omega)]
      by_cases c1 : (rd_T112 l (i - 1)).f0 > (rd_T112 l i).f0
      · simp only [if_pos c1]
        exact Ev.now _
      · by_cases c2 : (rd_T112 l (i - 1)).f0 = (rd_T112 l i).f0
        · by_cases c3 : (rd_T112 l (i - 1)).f1 ≥ (rd_T112 l i).f1
          · simp only [if_neg c1, if_pos c2, if_pos c3]
            exact Ev.now _
          · by_cases c4 : (rd_T112 l (i - 1)).f2 > (rd_T112 l i).f2
            · simp only [if_neg c1, if_pos c2, if_neg c3, if_pos c4]
              exact Ev.now _
            · exact absurd ⟨hf.1, hf.2.1, hf.2.2, fun _ => .inr ⟨c2, by omega, by omega⟩⟩ hp
        · exact absurd ⟨hf.1, hf.2.1, hf.2.2, fun _ => .inl (by omega)⟩ hp
  · refine ⟨fun hp r hr => ?_, fun hp => absurd ⟨hf.1, hf.2.1, hf.2.2, fun h => absurd h hi⟩ hp⟩
    refine Ev_shift ?_
    simp only [impl_IsTable.j1, Bool.false_eq_true, if_false, if_pos (show i = 0 by omega), w64 (n := i + 1) (by omega)]
    exact hr
theorem impl_isCalibre_eq (c : Int) : impl_isCalibre.f c = some (decide (20 ≤ c ∧ c ≤ 300)) := by
  unfold impl_isCalibre.f
  rw [within_eq]; rfl
theorem impl_IsTable_ev (l : List S112) (hn : l.length ≤ 140737488351232) : Ev (fun k => impl_IsTable.f k l) (tt (PTab l)) := by
  unfold impl_IsTable.f
  by_cases hl : (l.length : Int) > 12
  · simp only [if_pos hl]
    exact Ev_some (tt_neg (fun h => by have := h.1; omega)).symm
  · simp only [if_neg hl]
    have bad : ∀ i a b c, Ev (fun k => impl_IsTable.j1 k l i l l.length i true a b c) false := fun i a b c => by
      refine Ev_shift ?_
      simp only [impl_IsTable.j1, if_true]
      exact Ev.now _
    have := ev_all (L := fun i k => impl_IsTable.l0 k l l l.length i) (P := PT l) (n := l.length) (fin := true) (fun i h0 h1 hp r hr => ?_) (fun i h0 h1 hp => ?_) ?_ l.length 0 (by omega) (by omega)
    · refine Ev_eq this ?_
      rw [Bool.true_and]
      exact tt_iff ⟨fun h => ⟨by omega, fun j h0 h1 => h j h0 h1⟩, fun h j h0 h1 => h.2 j h0 h1⟩
    · refine Ev_shift ?_
      simp only [impl_IsTable.l0, if_pos h1, if_pos h0, impl_isKind_eq, impl_isCalibre_eq, within_eq, Option.bind_some, decide_eq_true_eq, if_pos hp.1, if_pos hp.2.1, decide_eq_true hp.2.2.1, Bool.not_true]
      exact (impl_IsTable_j1 l hn i h0 h1 ⟨hp.1, hp.2.1, hp.2.2.1⟩).1 hp r hr
    · refine Ev_shift ?_
      simp only [impl_IsTable.l0, if_pos h1, if_pos h0, impl_isKind_eq, impl_isCalibre_eq, within_eq, Option.bind_some, decide_eq_true_eq]
      by_cases c1 : 0 ≤ (rd_T112 l i).f0 ∧ (rd_T112 l i).f0 ≤ 3
      · by_cases c2 : 20 ≤ (rd_T112 l i).f1 ∧ (rd_T112 l i).f1 ≤ 300
        · by_cases c3 : 0 ≤ (rd_T112 l i).f2 ∧ (rd_T112 l i).f2 ≤ 10000
          · simp only [if_pos c1, if_pos c2, decide_eq_true c3, Bool.not_true]
            exact (impl_IsTable_j1 l hn i h0 h1 ⟨c1, c2, c3⟩).2 hp
          · simp only [if_pos c1, if_pos c2, decide_eq_false c3, Bool.not_false]
            exact bad _ _ _ _
        · simp only [if_pos c1, if_neg c2]
          exact bad _ _ _ _
      · simp only [if_neg c1]
        exact bad _ _ _ _
    · refine Ev_shift ?_
      simp only [impl_IsTable.l0, if_neg (show ¬ (l.length : Int) < l.length by omega)]
      exact Ev.now _
/-- The distance that a table asks for a calibre and a kind, -1 if it is forbidden. -/
def distM (cal kind : Int) : List S112 → Int → Int
  | [], acc => acc
  | d :: s, acc => if d.f0 = kind then (if d.f1 ≥ cal then d.f2 else distM cal kind s (-1)) else distM cal kind s acc
theorem spec_dist_l0 (l : List S112) (hn : l.length ≤ 140737488351232) (cal kind : Int) : ∀ (s : List S112) (i acc : Int), 0 ≤ i → l.drop i.toNat = s → Ev (fun k => spec_l16Distance.l0 k l cal kind acc i) (distM cal kind s acc)
  | [], i, acc, h0, h => by
    refine Ev_shift ?_
    simp only [spec_l16Distance.l0, if_neg (drop_nil h0 h)]
    exact Ev.now _
  | a :: s, i, acc, h0, h => by
    refine Ev_shift ?_
    obtain ⟨h1, h2, h3⟩ := drop_cons z112 h0 h
    have h2' : rd_T112 l i = a := h2
    unfold distM
    by_cases c1 : a.f0 = kind
    · by_cases c2 : a.f1 ≥ cal
      · simp only [spec_l16Distance.l0, if_pos h1, if_pos h0, h2', if_pos c1, if_pos c2]
        exact Ev.now _
      · simp only [spec_l16Distance.l0, if_pos h1, if_pos h0, h2', if_pos c1, if_neg c2, w64 (n := i + 1) (by omega)]
        exact spec_dist_l0 l hn cal kind s (i + 1) (-1) (by omega) h3
    · simp only [spec_l16Distance.l0, if_pos h1, if_pos h0, h2', if_neg c1, w64 (n := i + 1) (by omega)]
      exact spec_dist_l0 l hn cal kind s (i + 1) acc (by omega) h3
theorem spec_dist (l : List S112) (hn : l.length ≤ 140737488351232) (cal kind : Int) : Ev (fun k => spec_l16Distance.f k l cal kind) (distM cal kind l 0) := by
  unfold spec_l16Distance.f
  exact spec_dist_l0 l hn cal kind l 0 0 (by omega) rfl
theorem impl_dist_l0 (l : List S112) (hn : l.length ≤ 140737488351232) (cal kind : Int) : ∀ (s : List S112) (i acc : Int), 0 ≤ i → l.drop i.toNat = s → Ev (fun k => impl_distanceFor.l0 k cal kind acc l l.length i) (distM cal kind s acc)
  | [], i, acc, h0, h => by
    refine Ev_shift ?_
    simp only [impl_distanceFor.l0, if_neg (drop_nil h0 h)]
    exact Ev.now _
  | a :: s, i, acc, h0, h => by
    refine Ev_shift ?_
    obtain ⟨h1, h2, h3⟩ := drop_cons z112 h0 h
    have h2' : rd_T112 l i = a := h2
    unfold distM
    by_cases c1 : a.f0 = kind
    · by_cases c2 : a.f1 ≥ cal
      · simp only [impl_distanceFor.l0, if_pos h1, if_pos h0, h2', if_pos c1, if_pos c2]
        exact Ev.now _
      · simp only [impl_distanceFor.l0, if_pos h1, if_pos h0, h2', if_pos c1, if_neg c2, w64 (n := i + 1) (by omega)]
        exact impl_dist_l0 l hn cal kind s (i + 1) (-1) (by omega) h3
    · simp only [impl_distanceFor.l0, if_pos h1, if_pos h0, h2', if_neg c1, w64 (n := i + 1) (by omega)]
      exact impl_dist_l0 l hn cal kind s (i + 1) acc (by omega) h3
theorem impl_dist (l : List S112) (hn : l.length ≤ 140737488351232) (cal kind : Int) : Ev (fun k => impl_distanceFor.f k l cal kind) (distM cal kind l 0) := by
  unfold impl_distanceFor.f
  exact impl_dist_l0 l hn cal kind l 0 0 (by omega) rfl
theorem table_at {l : List S112} (h : PTab l) : ∀ x ∈ l, (0 ≤ x.f0 ∧ x.f0 ≤ 3) ∧ (20 ≤ x.f1 ∧ x.f1 ≤ 300) ∧ (0 ≤ x.f2 ∧ x.f2 ≤ 10000) := by
  intro x hx
  obtain ⟨i, hi, rfl⟩ := List.mem_iff_getElem.1 hx
  have hp := h.2 (i : Int) (by omega) (by omega)
  have e : rd_T112 l (i : Int) = l[i] := by
    show l.getD _ _ = _
    rw [Int.toNat_natCast, List.getD_eq_getElem?_getD, List.getElem?_eq_getElem hi]
    rfl
  unfold PT at hp
  rw [e] at hp
  exact ⟨hp.1, hp.2.1, hp.2.2.1⟩
theorem dist_bd_ {cal kind : Int} : ∀ (s : List S112) (acc : Int), (∀ x ∈ s, 0 ≤ x.f2 ∧ x.f2 ≤ 10000) → -1 ≤ acc → acc ≤ 0 → -1 ≤ distM cal kind s acc ∧ distM cal kind s acc ≤ 10000
  | [], acc, _, h1, h2 => by
    unfold distM
    omega
  | d :: s, acc, h, h1, h2 => by
    unfold distM
    have hd := h d (by simp)
    split
    · split
      · omega
      · exact dist_bd_ s (-1) (fun x hx => h x (by simp [hx])) (by omega) (by omega)
    · exact dist_bd_ s acc (fun x hx => h x (by simp [hx])) h1 h2
theorem dist_bd {t : List S112} (h : PTab t) (cal kind : Int) : -1 ≤ distM cal kind t 0 ∧ distM cal kind t 0 ≤ 10000 :=
  dist_bd_ t 0 (fun x hx => (table_at h x hx).2.2) (by omega) (by omega)
theorem dd_bd {d : Int} (h : -1 ≤ d ∧ d ≤ 10000) : 0 ≤ d * d ∧ d * d ≤ 100000000 := by
  rcases Int.lt_or_le d 0 with c | c
  · have e : d = -1 := by omega
    rw [e]
    decide
  · have h1 := Int.mul_nonneg c c
    have h2 := Int.mul_self_le_mul_self c h.2
    omega
/-- A calibre is not allowed because of the area with an index. -/
def agP (t : List S112) (l : List S83) (c x y i : Int) : Prop := distM c (rd_T83 l i).f0 t 0 < 0 ∨ sqAt l x y i < distM c (rd_T83 l i).f0 t 0 * distM c (rd_T83 l i).f0 t 0
instance (t : List S112) (l : List S83) (c x y i : Int) : Decidable (agP t l c x y i) := by unfold agP; infer_instance
def agF (t : List S112) (l : List S83) (c x y : Int) : List Int := idxF (fun i => decide (agP t l c x y i)) l.length 0
theorem spec_ag {t : List S112} (ht : PTab t) {l : List S83} (h : PSite l) {x y : Int} (hp : PPlace x y) (c : Int) : Ev (fun k => spec_l16Against.f k t l c x y) (agF t l c x y) := by
  have hl := h.1
  have htl := ht.1
  unfold spec_l16Against.f
  have := ev_filter (L := fun i out k => spec_l16Against.l0 k t l c x y out i) (p := fun i => decide (agP t l c x y i)) (n := l.length) (fin := fun out => out)
    (fun i out h0 h1 h2 hp' r hr => by
      have hb := dd_bd (dist_bd ht c (rd_T83 l i).f0)
      refine Ev_shift ?_
      simp only [spec_l16Against.l0, if_pos h1, if_pos h0]
      refine Ev.bind (spec_dist t (by omega) c _) ?_
      rcases of_decide_eq_true hp' with g | g
      · simp only [if_pos g, if_pos (show out.length < 17592186044416 by omega), w64 (n := i + 1) (by omega)]
        exact hr
      · by_cases g2 : distM c (rd_T83 l i).f0 t 0 < 0
        · simp only [if_pos g2, if_pos (show out.length < 17592186044416 by omega), w64 (n := i + 1) (by omega)]
          exact hr
        · simp only [if_neg g2, spec_sqAt h hp h0 h1, Option.bind_some, w64 (n := distM c (rd_T83 l i).f0 t 0 * distM c (rd_T83 l i).f0 t 0) (by omega), if_pos g, if_pos (show out.length < 17592186044416 by omega), w64 (n := i + 1) (by omega)]
          exact hr)
    (fun i out h0 h1 h2 hp' r hr => by
      have hb := dd_bd (dist_bd ht c (rd_T83 l i).f0)
      have hn := of_decide_eq_false hp'
      refine Ev_shift ?_
      simp only [spec_l16Against.l0, if_pos h1, if_pos h0]
      refine Ev.bind (spec_dist t (by omega) c _) ?_
      simp only [if_neg (fun g => hn (.inl g)), spec_sqAt h hp h0 h1, Option.bind_some, w64 (n := distM c (rd_T83 l i).f0 t 0 * distM c (rd_T83 l i).f0 t 0) (by omega), if_neg (fun g => hn (.inr g)), w64 (n := i + 1) (by omega)]
      exact hr)
    (fun out h2 => by
      refine Ev_shift ?_
      simp only [spec_l16Against.l0, if_neg (show ¬ (l.length : Int) < l.length by omega)]
      exact Ev.now _) l.length 0 [] (by omega) (by omega) (by simp)
  exact this
theorem impl_ag {t : List S112} (ht : PTab t) {l : List S83} (h : PSite l) {x y : Int} (hp : PPlace x y) (c : Int) : Ev (fun k => impl_areasAgainst.f k t l c x y) (agF t l c x y) := by
  have hl := h.1
  have htl := ht.1
  unfold impl_areasAgainst.f
  have := ev_filter (L := fun i out k => impl_areasAgainst.l0 k t c x y out l l.length i) (p := fun i => decide (agP t l c x y i)) (n := l.length) (fin := fun out => out)
    (fun i out h0 h1 h2 hp' r hr => by
      have hb := dd_bd (dist_bd ht c (rd_T83 l i).f0)
      refine Ev_shift ?_
      simp only [impl_areasAgainst.l0, if_pos h1, if_pos h0]
      refine Ev.bind (impl_dist t (by omega) c _) ?_
      rcases of_decide_eq_true hp' with g | g
      · simp only [if_pos g, if_pos (show out.length < 17592186044416 by omega), w64 (n := i + 1) (by omega)]
        exact hr
      · by_cases g2 : distM c (rd_T83 l i).f0 t 0 < 0
        · simp only [if_pos g2, if_pos (show out.length < 17592186044416 by omega), w64 (n := i + 1) (by omega)]
          exact hr
        · simp only [if_neg g2, impl_sqAt h hp h0 h1, Option.bind_some, w64 (n := distM c (rd_T83 l i).f0 t 0 * distM c (rd_T83 l i).f0 t 0) (by omega), if_pos g, if_pos (show out.length < 17592186044416 by omega), w64 (n := i + 1) (by omega)]
          exact hr)
    (fun i out h0 h1 h2 hp' r hr => by
      have hb := dd_bd (dist_bd ht c (rd_T83 l i).f0)
      have hn := of_decide_eq_false hp'
      refine Ev_shift ?_
      simp only [impl_areasAgainst.l0, if_pos h1, if_pos h0]
      refine Ev.bind (impl_dist t (by omega) c _) ?_
      simp only [if_neg (fun g => hn (.inl g)), impl_sqAt h hp h0 h1, Option.bind_some, w64 (n := distM c (rd_T83 l i).f0 t 0 * distM c (rd_T83 l i).f0 t 0) (by omega), if_neg (fun g => hn (.inr g)), w64 (n := i + 1) (by omega)]
      exact hr)
    (fun out h2 => by
      refine Ev_shift ?_
      simp only [impl_areasAgainst.l0, if_neg (show ¬ (l.length : Int) < l.length by omega)]
      exact Ev.now _) l.length 0 [] (by omega) (by omega) (by simp)
  exact this
theorem impl_allowed {t : List S112} (ht : PTab t) {l : List S83} (h : PSite l) {x y : Int} (hp : PPlace x y) (c : Int) : Ev (fun k => impl_isAllowed.f k t l c x y) (decide (((agF t l c x y).length : Int) = 0)) := by
  unfold impl_isAllowed.f
  refine Ev.bind (impl_ag ht h hp c) ?_
  exact Ev.now _
theorem l16Code_ev (t : List S112) (hn : t.length ≤ 1000000) (l : List S83) (hl : l.length ≤ 1000000) (c x y : Int) : Ev (fun k => spec_l16Code.f k t l c x y) (if tt (PTab t) = true ∧ PSite l then (if PPlace x y ∧ 20 ≤ c ∧ c ≤ 300 then 0 else 2) else 1) := by
  unfold spec_l16Code.f
  refine Ev.bind (spec_IsTable_ev t (by omega)) ?_
  by_cases h : PTab t
  · simp only [tt_pos h, if_true, true_and]
    refine Ev.bind (spec_l15Code_ev l (by omega) 0 x y) ?_
    by_cases h2 : PSite l
    · by_cases h3 : PPlace x y
      · simp only [if_pos h2, if_pos (show PPlace x y ∧ (0 : Int) ≤ 0 ∧ (0 : Int) ≤ 3 from ⟨h3, by omega, by omega⟩), if_true, l01In_eq, Option.bind_some]
        by_cases h4 : 20 ≤ c ∧ c ≤ 300
        · simp only [decide_eq_true h4, if_pos (show PPlace x y ∧ 20 ≤ c ∧ c ≤ 300 from ⟨h3, h4⟩), if_true]
          exact Ev.now _
        · simp only [decide_eq_false h4, if_neg (show ¬ (PPlace x y ∧ 20 ≤ c ∧ c ≤ 300) from fun g => h4 g.2), Bool.false_eq_true, if_false]
          exact Ev.now _
      · simp only [if_pos h2, if_neg (show ¬ (PPlace x y ∧ (0 : Int) ≤ 0 ∧ (0 : Int) ≤ 3) from fun g => h3 g.1), if_neg (show ¬ (PPlace x y ∧ 20 ≤ c ∧ c ≤ 300) from fun g => h3 g.1), if_neg (show ¬ (2 : Int) = 0 by decide)]
        exact Ev.now _
    · simp only [if_neg h2, if_neg (show ¬ (1 : Int) = 0 by decide)]
      exact Ev.now _
  · simp only [tt_neg h, Bool.false_eq_true, if_false, false_and]
    exact Ev.now _
/-- The greatest calibre that is allowed, d of them looked at, c the greatest. -/
def greatF (t : List S112) (l : List S83) (x y : Int) : Nat → Int → Int × Int
  | 0, _ => (0, 4)
  | d + 1, c => if ((agF t l c x y).length : Int) = 0 then (c, 0) else greatF t l x y d (c - 1)
theorem spec_great {t : List S112} (ht : PTab t) {l : List S83} (h : PSite l) {x y : Int} (hp : PPlace x y) : ∀ (d : Nat) (c : Int), c = 19 + d → d ≤ 300 → Ev (fun k => spec_GreatestCalibre.l0 k t l x y c) (greatF t l x y d c)
  | 0, c, hc, hd => by
    refine Ev_shift ?_
    simp only [spec_GreatestCalibre.l0, if_neg (show ¬ c ≥ 20 by omega), greatF]
    exact Ev.now _
  | d + 1, c, hc, hd => by
    refine Ev_shift ?_
    simp only [spec_GreatestCalibre.l0, if_pos (show c ≥ 20 by omega)]
    refine Ev.bind (spec_ag ht h hp c) ?_
    unfold greatF
    by_cases g : ((agF t l c x y).length : Int) = 0
    · simp only [if_pos g]
      exact Ev.now _
    · simp only [if_neg g, w64 (n := c - 1) (by omega)]
      exact spec_great ht h hp d (c - 1) (by omega) (by omega)
theorem impl_great {t : List S112} (ht : PTab t) {l : List S83} (h : PSite l) {x y : Int} (hp : PPlace x y) : ∀ (d : Nat) (c : Int), c = 19 + d → d ≤ 300 → Ev (fun k => impl_GreatestCalibre.l0 k t l x y c) (greatF t l x y d c)
  | 0, c, hc, hd => by
    refine Ev_shift ?_
    simp only [impl_GreatestCalibre.l0, if_neg (show ¬ c ≥ 20 by omega), greatF]
    exact Ev.now _
  | d + 1, c, hc, hd => by
    refine Ev_shift ?_
    simp only [impl_GreatestCalibre.l0, if_pos (show c ≥ 20 by omega)]
    refine Ev.bind (impl_allowed ht h hp c) ?_
    unfold greatF
    by_cases g : ((agF t l c x y).length : Int) = 0
    · simp only [if_pos g, decide_eq_true g]
      exact Ev.now _
    · simp only [if_neg g, decide_eq_false g, Bool.false_eq_true, if_false, w64 (n := c - 1) (by omega)]
      exact impl_great ht h hp d (c - 1) (by omega) (by omega)
/-- The code of a table, a site, a calibre and a place. -/
noncomputable def code16 (t : List S112) (l : List S83) (c x y : Int) : Int := if tt (PTab t) = true ∧ PSite l then (if PPlace x y ∧ 20 ≤ c ∧ c ≤ 300 then 0 else 2) else 1
theorem code16_0 {t : List S112} {l : List S83} {c x y : Int} : code16 t l c x y = 0 ↔ PTab t ∧ PSite l ∧ PPlace x y ∧ 20 ≤ c ∧ c ≤ 300 := by
  unfold code16
  constructor
  · intro h
    split at h
    · rename_i g
      split at h
      · rename_i g2
        exact ⟨tt_eq_true.1 g.1, g.2, g2⟩
      · cases h
    · cases h
  · rintro ⟨h1, h2, h3⟩
    rw [if_pos ⟨tt_pos h1, h2⟩, if_pos h3]
theorem allow_val (m0 : List S112) (m1 : List S83) (a2 : Int) (a3 : Int) (a4 : Int) (hn0 : m0.length ≤ 1000000) (hn1 : m1.length ≤ 1000000) : ∃ b, Ev (fun k => spec_IsAllowed.f k m0 m1 a2 a3 a4) (b, code16 m0 m1 a2 a3 a4) ∧ Ev (fun k => impl_IsAllowed.f k m0 m1 a2 a3 a4) (b, code16 m0 m1 a2 a3 a4) ∧ (code16 m0 m1 a2 a3 a4 = 0 → b = (decide (((agF m0 m1 a2 a3 a4).length : Int) = 0))) := by
  have hs := l16Code_ev m0 hn0 m1 hn1 a2 a3 a4
  have ht := impl_IsTable_ev m0 (by omega)
  have hi := impl_IsSite_ev m1 (by omega)
  have bad : ¬ (tt (PTab m0) = true ∧ PSite m1) → ∃ b, Ev (fun k => spec_IsAllowed.f k m0 m1 a2 a3 a4) (b, code16 m0 m1 a2 a3 a4) ∧ Ev (fun k => impl_IsAllowed.f k m0 m1 a2 a3 a4) (b, code16 m0 m1 a2 a3 a4) ∧ (code16 m0 m1 a2 a3 a4 = 0 → b = (decide (((agF m0 m1 a2 a3 a4).length : Int) = 0))) := fun h => by
    rw [if_neg h] at hs
    have j : Ev (fun k => impl_IsAllowed.j0 k m0 m1 a2 a3 a4 true) (false, (1 : Int)) := by
      refine Ev_shift ?_
      simp only [impl_IsAllowed.j0, if_true]
      exact Ev.now _
    have ez : code16 m0 m1 a2 a3 a4 = 1 := by unfold code16; rw [if_neg h]
    rw [ez]
    refine ⟨false, ?_, ?_, fun e => absurd e (by decide)⟩
    · unfold spec_IsAllowed.f
      refine Ev.bind hs ?_
      simp only [if_neg (show ¬ (1 : Int) = 0 by decide)]
      exact Ev.now _
    · unfold impl_IsAllowed.f
      refine Ev.bind ht ?_
      by_cases g : PTab m0
      · have g2 : ¬ PSite m1 := fun x => h ⟨tt_pos g, x⟩
        simp only [tt_pos g, if_true]
        refine Ev.bind hi ?_
        simp only [decide_eq_false g2, Bool.not_false]
        exact j
      · simp only [tt_neg g, Bool.false_eq_true, if_false]
        exact j
  by_cases h : PTab m0
  · by_cases h2 : PSite m1
    · rw [if_pos ⟨tt_pos h, h2⟩] at hs
      have jump : ∀ q, Ev (fun k => impl_IsAllowed.j0 k m0 m1 a2 a3 a4 false) q → Ev (fun k => impl_IsAllowed.f k m0 m1 a2 a3 a4) q := fun q hq => by
        unfold impl_IsAllowed.f
        refine Ev.bind ht ?_
        simp only [tt_pos h, if_true]
        refine Ev.bind hi ?_
        simp only [decide_eq_true h2, Bool.not_true]
        exact hq
      by_cases c : PPlace a3 a4 ∧ 20 ≤ a2 ∧ a2 ≤ 300
      · rw [if_pos c] at hs
        have ez : code16 m0 m1 a2 a3 a4 = 0 := code16_0.2 ⟨h, h2, c⟩
        rw [ez]
        refine ⟨((agF m0 m1 a2 a3 a4).length : Int) == 0, ?_, jump _ ?_, fun _ => rfl⟩
        · unfold spec_IsAllowed.f
          refine Ev.bind hs ?_
          simp only [if_true]
          exact Ev.bind (spec_ag h h2 c.1 a2) (Ev.now _)
        · refine Ev_shift ?_
          simp only [impl_IsAllowed.j0, Bool.false_eq_true, if_false, impl_isCalibre_eq, impl_place_eq, Option.bind_some, decide_eq_true c.1, decide_eq_true c.2, if_true]
          refine Ev.bind (impl_allowed h h2 c.1 a2) ?_
          exact Ev_some rfl
      · rw [if_neg c] at hs
        have ez : code16 m0 m1 a2 a3 a4 = 2 := by unfold code16; rw [if_pos ⟨tt_pos h, h2⟩, if_neg c]
        rw [ez]
        refine ⟨false, ?_, jump _ ?_, fun e => absurd e (by decide)⟩
        · unfold spec_IsAllowed.f
          refine Ev.bind hs ?_
          simp only [if_neg (show ¬ (2 : Int) = 0 by decide)]
          exact Ev.now _
        · refine Ev_shift ?_
          simp only [impl_IsAllowed.j0, Bool.false_eq_true, if_false, impl_isCalibre_eq, impl_place_eq, Option.bind_some]
          by_cases g : 20 ≤ a2 ∧ a2 ≤ 300
          · have g2 : ¬ PPlace a3 a4 := fun x => c ⟨x, g⟩
            simp only [decide_eq_true g, decide_eq_false g2, if_true, Bool.false_eq_true, if_false]
            exact Ev.now _
          · simp only [decide_eq_false g, Bool.false_eq_true, if_false]
            exact Ev.now _
    · exact bad (fun g => h2 g.2)
  · exact bad (fun g => h (tt_eq_true.1 g.1))
theorem against_val (m0 : List S112) (m1 : List S83) (a2 : Int) (a3 : Int) (a4 : Int) (hn0 : m0.length ≤ 1000000) (hn1 : m1.length ≤ 1000000) : ∃ b, Ev (fun k => spec_AreasAgainst.f k m0 m1 a2 a3 a4) (b, code16 m0 m1 a2 a3 a4) ∧ Ev (fun k => impl_AreasAgainst.f k m0 m1 a2 a3 a4) (b, code16 m0 m1 a2 a3 a4) ∧ (code16 m0 m1 a2 a3 a4 = 0 → b = agF m0 m1 a2 a3 a4) ∧ b.length ≤ 1000 := by
  have hs := l16Code_ev m0 hn0 m1 hn1 a2 a3 a4
  have ht := impl_IsTable_ev m0 (by omega)
  have hi := impl_IsSite_ev m1 (by omega)
  have bad : ¬ (tt (PTab m0) = true ∧ PSite m1) → ∃ b, Ev (fun k => spec_AreasAgainst.f k m0 m1 a2 a3 a4) (b, code16 m0 m1 a2 a3 a4) ∧ Ev (fun k => impl_AreasAgainst.f k m0 m1 a2 a3 a4) (b, code16 m0 m1 a2 a3 a4) ∧ (code16 m0 m1 a2 a3 a4 = 0 → b = agF m0 m1 a2 a3 a4) ∧ b.length ≤ 1000 := fun h => by
    rw [if_neg h] at hs
    have j : Ev (fun k => impl_AreasAgainst.j0 k m0 m1 a2 a3 a4 true) (([] : List Int), (1 : Int)) := by
      refine Ev_shift ?_
      simp only [impl_AreasAgainst.j0, if_true]
      exact Ev.now _
    have ez : code16 m0 m1 a2 a3 a4 = 1 := by unfold code16; rw [if_neg h]
    rw [ez]
    refine ⟨([] : List Int), ?_, ?_, fun e => absurd e (by decide), by simp⟩
    · unfold spec_AreasAgainst.f
      refine Ev.bind hs ?_
      simp only [if_neg (show ¬ (1 : Int) = 0 by decide)]
      exact Ev.now _
    · unfold impl_AreasAgainst.f
      refine Ev.bind ht ?_
      by_cases g : PTab m0
      · have g2 : ¬ PSite m1 := fun x => h ⟨tt_pos g, x⟩
        simp only [tt_pos g, if_true]
        refine Ev.bind hi ?_
        simp only [decide_eq_false g2, Bool.not_false]
        exact j
      · simp only [tt_neg g, Bool.false_eq_true, if_false]
        exact j
  by_cases h : PTab m0
  · by_cases h2 : PSite m1
    · rw [if_pos ⟨tt_pos h, h2⟩] at hs
      have hl := h2.1
      have jump : ∀ q, Ev (fun k => impl_AreasAgainst.j0 k m0 m1 a2 a3 a4 false) q → Ev (fun k => impl_AreasAgainst.f k m0 m1 a2 a3 a4) q := fun q hq => by
        unfold impl_AreasAgainst.f
        refine Ev.bind ht ?_
        simp only [tt_pos h, if_true]
        refine Ev.bind hi ?_
        simp only [decide_eq_true h2, Bool.not_true]
        exact hq
      by_cases c : PPlace a3 a4 ∧ 20 ≤ a2 ∧ a2 ≤ 300
      · rw [if_pos c] at hs
        have hlen := idxF_length (fun i => decide (agP m0 m1 a2 a3 a4 i)) m1.length 0
        have ez : code16 m0 m1 a2 a3 a4 = 0 := code16_0.2 ⟨h, h2, c⟩
        rw [ez]
        refine ⟨agF m0 m1 a2 a3 a4, ?_, jump _ ?_, fun _ => rfl, by show List.length (idxF _ _ _) ≤ _; omega⟩
        · unfold spec_AreasAgainst.f
          refine Ev.bind hs ?_
          simp only [if_true]
          exact Ev.bind (spec_ag h h2 c.1 a2) (Ev.now _)
        · refine Ev_shift ?_
          simp only [impl_AreasAgainst.j0, Bool.false_eq_true, if_false, impl_isCalibre_eq, impl_place_eq, Option.bind_some, decide_eq_true c.1, decide_eq_true c.2, if_true]
          exact Ev.bind (impl_ag h h2 c.1 a2) (Ev.now _)
      · rw [if_neg c] at hs
        have ez : code16 m0 m1 a2 a3 a4 = 2 := by unfold code16; rw [if_pos ⟨tt_pos h, h2⟩, if_neg c]
        rw [ez]
        refine ⟨([] : List Int), ?_, jump _ ?_, fun e => absurd e (by decide), by simp⟩
        · unfold spec_AreasAgainst.f
          refine Ev.bind hs ?_
          simp only [if_neg (show ¬ (2 : Int) = 0 by decide)]
          exact Ev.now _
        · refine Ev_shift ?_
          simp only [impl_AreasAgainst.j0, Bool.false_eq_true, if_false, impl_isCalibre_eq, impl_place_eq, Option.bind_some]
          by_cases g : 20 ≤ a2 ∧ a2 ≤ 300
          · have g2 : ¬ PPlace a3 a4 := fun x => c ⟨x, g⟩
            simp only [decide_eq_true g, decide_eq_false g2, if_true, Bool.false_eq_true, if_false]
            exact Ev.now _
          · simp only [decide_eq_false g, Bool.false_eq_true, if_false]
            exact Ev.now _
    · exact bad (fun g => h2 g.2)
  · exact bad (fun g => h (tt_eq_true.1 g.1))
theorem great_val (m0 : List S112) (m1 : List S83) (a2 : Int) (a3 : Int) (hn0 : m0.length ≤ 1000000) (hn1 : m1.length ≤ 1000000) : ∃ q : Int × Int, Ev (fun k => spec_GreatestCalibre.f k m0 m1 a2 a3) q ∧ Ev (fun k => impl_GreatestCalibre.f k m0 m1 a2 a3) q ∧ (PTab m0 → PSite m1 → PPlace a2 a3 → q = greatF m0 m1 a2 a3 281 300) := by
  have hs := l16Code_ev m0 hn0 m1 hn1 20 a2 a3
  have ht := impl_IsTable_ev m0 (by omega)
  have hi := impl_IsSite_ev m1 (by omega)
  have bad : ¬ (tt (PTab m0) = true ∧ PSite m1) → ∃ q : Int × Int, Ev (fun k => spec_GreatestCalibre.f k m0 m1 a2 a3) q ∧ Ev (fun k => impl_GreatestCalibre.f k m0 m1 a2 a3) q ∧ (PTab m0 → PSite m1 → PPlace a2 a3 → q = greatF m0 m1 a2 a3 281 300) := fun h => by
    rw [if_neg h] at hs
    have j : Ev (fun k => impl_GreatestCalibre.j0 k m0 m1 a2 a3 true) ((0 : Int), (1 : Int)) := by
      refine Ev_shift ?_
      simp only [impl_GreatestCalibre.j0, if_true]
      exact Ev.now _
    refine ⟨(0, 1), ?_, ?_, fun x y _ => absurd ⟨tt_pos x, y⟩ h⟩
    · unfold spec_GreatestCalibre.f
      refine Ev.bind hs ?_
      simp only [if_neg (show ¬ (1 : Int) = 0 by decide)]
      exact Ev.now _
    · unfold impl_GreatestCalibre.f
      refine Ev.bind ht ?_
      by_cases g : PTab m0
      · have g2 : ¬ PSite m1 := fun x => h ⟨tt_pos g, x⟩
        simp only [tt_pos g, if_true]
        refine Ev.bind hi ?_
        simp only [decide_eq_false g2, Bool.not_false]
        exact j
      · simp only [tt_neg g, Bool.false_eq_true, if_false]
        exact j
  by_cases h : PTab m0
  · by_cases h2 : PSite m1
    · rw [if_pos ⟨tt_pos h, h2⟩] at hs
      have jump : ∀ q, Ev (fun k => impl_GreatestCalibre.j0 k m0 m1 a2 a3 false) q → Ev (fun k => impl_GreatestCalibre.f k m0 m1 a2 a3) q := fun q hq => by
        unfold impl_GreatestCalibre.f
        refine Ev.bind ht ?_
        simp only [tt_pos h, if_true]
        refine Ev.bind hi ?_
        simp only [decide_eq_true h2, Bool.not_true]
        exact hq
      by_cases c : PPlace a2 a3
      · rw [if_pos ⟨c, by omega, by omega⟩] at hs
        refine ⟨greatF m0 m1 a2 a3 281 300, ?_, jump _ ?_, fun _ _ _ => rfl⟩
        · unfold spec_GreatestCalibre.f
          refine Ev.bind hs ?_
          simp only [if_true]
          exact spec_great h h2 c 281 300 (by omega) (by omega)
        · refine Ev_shift ?_
          simp only [impl_GreatestCalibre.j0, Bool.false_eq_true, if_false, impl_place_eq, Option.bind_some, decide_eq_true c, if_true]
          exact impl_great h h2 c 281 300 (by omega) (by omega)
      · rw [if_neg (fun g => c g.1)] at hs
        refine ⟨(0, 2), ?_, jump _ ?_, fun _ _ x => absurd x c⟩
        · unfold spec_GreatestCalibre.f
          refine Ev.bind hs ?_
          simp only [if_neg (show ¬ (2 : Int) = 0 by decide)]
          exact Ev.now _
        · refine Ev_shift ?_
          simp only [impl_GreatestCalibre.j0, Bool.false_eq_true, if_false, impl_place_eq, Option.bind_some, decide_eq_false c]
          exact Ev.now _
    · exact bad (fun g => h2 g.2)
  · exact bad (fun g => h (tt_eq_true.1 g.1))
theorem distfor_val (m0 : List S112) (a1 : Int) (a2 : Int) (hn0 : m0.length ≤ 1000000) : ∃ q : Int × Int, Ev (fun k => spec_DistanceFor.f k m0 a1 a2) q ∧ Ev (fun k => impl_DistanceFor.f k m0 a1 a2) q ∧ (q.2 = 0 → PTab m0 ∧ (20 ≤ a1 ∧ a1 ≤ 300) ∧ (0 ≤ a2 ∧ a2 ≤ 3) ∧ 0 ≤ distM a1 a2 m0 0 ∧ q.1 = distM a1 a2 m0 0) ∧ (PTab m0 → 20 ≤ a1 → a1 ≤ 300 → 0 ≤ a2 → a2 ≤ 3 → 0 ≤ distM a1 a2 m0 0 → q.2 = 0) := by
  have hs := spec_IsTable_ev m0 (by omega)
  have hi := impl_IsTable_ev m0 (by omega)
  have bad : Ev (fun k => impl_DistanceFor.j0 k m0 a1 a2 true) ((0 : Int), (2 : Int)) := by
    refine Ev_shift ?_
    simp only [impl_DistanceFor.j0, if_true]
    exact Ev.now _
  by_cases h : PTab m0
  · by_cases c1 : 20 ≤ a1 ∧ a1 ≤ 300
    · by_cases c2 : 0 ≤ a2 ∧ a2 ≤ 3
      · refine ⟨(if distM a1 a2 m0 0 < 0 then (0, 5) else (distM a1 a2 m0 0, 0)), ?_, ?_, fun e => ?_, fun _ _ _ _ _ e => by rw [if_neg (by omega)]⟩
        rotate_left 2
        · by_cases g : distM a1 a2 m0 0 < 0
          · rw [if_pos g] at e
            cases e
          · rw [if_neg g]
            exact ⟨h, c1, c2, by omega, rfl⟩
        · unfold spec_DistanceFor.f spec_l16Table.f
          refine Ev.bind (Ev.bind hs (r := (0 : Int)) ?_) ?_
          · simp only [tt_pos h, if_true, l01In_eq, Option.bind_some, decide_eq_true_eq, if_pos c1, if_pos c2]
            exact Ev.now _
          · simp only [if_true]
            refine Ev.bind (spec_dist m0 (by omega) a1 a2) ?_
            split <;> exact Ev.now _
        · unfold impl_DistanceFor.f
          refine Ev.bind hi ?_
          simp only [tt_pos h, if_true, impl_isCalibre_eq, impl_isKind_eq, Option.bind_some, decide_eq_true_eq, if_pos c1, decide_eq_true c2, Bool.not_true]
          refine Ev_shift ?_
          simp only [impl_DistanceFor.j0, Bool.false_eq_true, if_false]
          refine Ev.bind (impl_dist m0 (by omega) a1 a2) ?_
          split <;> exact Ev.now _
      · refine ⟨(0, 2), ?_, ?_, fun e => absurd e (by decide), fun _ _ _ x y _ => absurd ⟨x, y⟩ c2⟩
        · unfold spec_DistanceFor.f spec_l16Table.f
          refine Ev.bind (Ev.bind hs (r := (2 : Int)) ?_) (Ev.now _)
          simp only [tt_pos h, if_true, l01In_eq, Option.bind_some, decide_eq_true_eq, if_pos c1, if_neg c2]
          exact Ev.now _
        · unfold impl_DistanceFor.f
          refine Ev.bind hi ?_
          simp only [tt_pos h, if_true, impl_isCalibre_eq, impl_isKind_eq, Option.bind_some, decide_eq_true_eq, if_pos c1, decide_eq_false c2, Bool.not_false]
          exact bad
    · refine ⟨(0, 2), ?_, ?_, fun e => absurd e (by decide), fun _ x y _ _ _ => absurd ⟨x, y⟩ c1⟩
      · unfold spec_DistanceFor.f spec_l16Table.f
        refine Ev.bind (Ev.bind hs (r := (2 : Int)) ?_) (Ev.now _)
        simp only [tt_pos h, if_true, l01In_eq, Option.bind_some, decide_eq_true_eq, if_neg c1]
        exact Ev.now _
      · unfold impl_DistanceFor.f
        refine Ev.bind hi ?_
        simp only [tt_pos h, if_true, impl_isCalibre_eq, impl_isKind_eq, Option.bind_some, decide_eq_true_eq, if_neg c1]
        exact bad
  · refine ⟨(0, 1), ?_, ?_, fun e => absurd e (by decide), fun x _ _ _ _ _ => absurd x h⟩
    · unfold spec_DistanceFor.f spec_l16Table.f
      refine Ev.bind (Ev.bind hs (r := (1 : Int)) ?_) (Ev.now _)
      simp only [tt_neg h, Bool.false_eq_true, if_false]
      exact Ev.now _
    · unfold impl_DistanceFor.f
      refine Ev.bind hi ?_
      simp only [tt_neg h, Bool.false_eq_true, if_false]
      exact Ev.now _
theorem dist_keep {c kind x : Int} : ∀ s : List S112, (∀ b ∈ s, b.f0 = kind → x ≤ b.f2) → distM c kind s (-1) < 0 ∨ x ≤ distM c kind s (-1)
  | [], _ => .inl (by unfold distM; omega)
  | b :: s, h => by
    unfold distM
    have ih := dist_keep (c := c) s (fun d hd => h d (by simp [hd]))
    split
    · rename_i g
      split
      · exact .inr (h b (by simp) g)
      · exact ih
    · exact ih
theorem dist_mono_ {c c' kind : Int} (hc : c' ≤ c) : ∀ (s : List S112) (acc : Int), s.Pairwise (fun a b => a.f0 = b.f0 → a.f2 ≤ b.f2) → (∀ b ∈ s, 0 ≤ b.f2) → distM c kind s acc < 0 ∨ (0 ≤ distM c' kind s acc ∧ distM c' kind s acc ≤ distM c kind s acc)
  | [], acc, _, _ => by
    unfold distM
    omega
  | a :: s, acc, hp, h0 => by
    rw [List.pairwise_cons] at hp
    have ha := h0 a (by simp)
    have hs : ∀ b ∈ s, 0 ≤ b.f2 := fun b hb => h0 b (by simp [hb])
    unfold distM
    by_cases g : a.f0 = kind
    · rw [if_pos g, if_pos g]
      by_cases g1 : a.f1 ≥ c
      · rw [if_pos g1, if_pos (show a.f1 ≥ c' by omega)]
        exact .inr ⟨ha, Int.le_refl _⟩
      · rw [if_neg g1]
        by_cases g2 : a.f1 ≥ c'
        · rw [if_pos g2]
          rcases dist_keep (c := c) (kind := kind) (x := a.f2) s (fun b hb e => hp.1 b hb (by rw [g, e])) with q | q
          · exact .inl q
          · exact .inr ⟨ha, q⟩
        · rw [if_neg g2]
          exact dist_mono_ hc s (-1) hp.2 hs
    · rw [if_neg g, if_neg g]
      exact dist_mono_ hc s acc hp.2 hs
theorem tab_pair {t : List S112} (h : PTab t) : t.Pairwise (fun a b => a.f0 = b.f0 → a.f2 ≤ b.f2) := by
  have step : ∀ d i : Nat, i + d + 1 < t.length → (rd_T112 t (i : Int)).f0 ≤ (rd_T112 t ((i + d + 1 : Nat) : Int)).f0 ∧ ((rd_T112 t (i : Int)).f0 = (rd_T112 t ((i + d + 1 : Nat) : Int)).f0 → (rd_T112 t (i : Int)).f2 ≤ (rd_T112 t ((i + d + 1 : Nat) : Int)).f2) := fun d => by
    induction d with
    | zero =>
      intro i hi
      have := (h.2 ((i + 0 + 1 : Nat) : Int) (by omega) (by omega)).2.2.2 (by omega)
      rw [show (((i + 0 + 1 : Nat) : Int) - 1) = (i : Int) by omega] at this
      omega
    | succ d ih =>
      intro i hi
      have h1 := ih i (by omega)
      have := (h.2 ((i + (d + 1) + 1 : Nat) : Int) (by omega) (by omega)).2.2.2 (by omega)
      rw [show (((i + (d + 1) + 1 : Nat) : Int) - 1) = ((i + d + 1 : Nat) : Int) by omega] at this
      omega
  have e : ∀ (i : Nat) (hi : i < t.length), rd_T112 t (i : Int) = t[i] := fun i hi => by
    show t.getD _ _ = _
    rw [Int.toNat_natCast, List.getD_eq_getElem?_getD, List.getElem?_eq_getElem hi]
    rfl
  refine List.pairwise_iff_getElem.2 fun i j hi hj hij => ?_
  have := step (j - i - 1) i (by omega)
  rw [show i + (j - i - 1) + 1 = j by omega, e i hi, e j hj] at this
  exact this.2
theorem dist_mono {t : List S112} (h : PTab t) {c c' : Int} (hc : c' ≤ c) (kind : Int) : distM c kind t 0 < 0 ∨ (0 ≤ distM c' kind t 0 ∧ distM c' kind t 0 ≤ distM c kind t 0) :=
  dist_mono_ hc t 0 (tab_pair h) (fun b hb => (table_at h b hb).2.2.1)
theorem ag_mono {t : List S112} (h : PTab t) {l : List S83} {c c' x y i : Int} (hc : c' ≤ c) (ha : agP t l c' x y i) : agP t l c x y i := by
  unfold agP at ha ⊢
  rcases dist_mono h hc (rd_T83 l i).f0 with g | ⟨g1, g2⟩
  · exact .inl g
  · rcases ha with ha | ha
    · omega
    · have := Int.mul_le_mul g2 g2 g1 (by omega)
      exact .inr (by omega)
theorem agF_nil {t : List S112} {l : List S83} {c x y : Int} : ((agF t l c x y).length : Int) = 0 ↔ ∀ i : Int, 0 ≤ i → i < l.length → ¬ agP t l c x y i := by
  unfold agF
  constructor
  · intro h i i0 i1 ha
    have hm : i ∈ idxF (fun i => decide (agP t l c x y i)) l.length 0 := (idxF_mem _ _ _ _).2 ⟨i0, by omega, decide_eq_true ha⟩
    have := List.length_pos_of_mem hm
    omega
  · intro h
    rcases Nat.eq_zero_or_pos (idxF (fun i => decide (agP t l c x y i)) l.length 0).length with e | e
    · omega
    · obtain ⟨a, ha⟩ := List.exists_mem_of_length_pos e
      have := (idxF_mem _ _ _ _).1 ha
      exact absurd (of_decide_eq_true this.2.2) (h a this.1 (by omega))
theorem allowed_down {t : List S112} (h : PTab t) {l : List S83} {c c' x y : Int} (hc : c' ≤ c) (ha : ((agF t l c x y).length : Int) = 0) : ((agF t l c' x y).length : Int) = 0 :=
  agF_nil.2 (fun i i0 i1 g => agF_nil.1 ha i i0 i1 (ag_mono h hc g))
theorem greatF_spec (t : List S112) (l : List S83) (x y : Int) : ∀ (d : Nat) (c : Int), c = 19 + d → (greatF t l x y d c = (0, 4) ∧ ∀ e : Int, 20 ≤ e → e ≤ c → ¬ ((agF t l e x y).length : Int) = 0) ∨ ∃ g : Int, greatF t l x y d c = (g, 0) ∧ 20 ≤ g ∧ g ≤ c ∧ ((agF t l g x y).length : Int) = 0 ∧ ∀ e : Int, g < e → e ≤ c → ¬ ((agF t l e x y).length : Int) = 0
  | 0, c, hc => .inl ⟨rfl, fun e e0 e1 => by omega⟩
  | d + 1, c, hc => by
    unfold greatF
    by_cases g : ((agF t l c x y).length : Int) = 0
    · rw [if_pos g]
      exact .inr ⟨c, rfl, by omega, Int.le_refl _, g, fun e e0 e1 => by omega⟩
    · rw [if_neg g]
      have keep : ∀ e : Int, e ≤ c → (e ≤ c - 1 → ¬ ((agF t l e x y).length : Int) = 0) → ¬ ((agF t l e x y).length : Int) = 0 := fun e e1 h => by
        by_cases ee : e = c
        · rw [ee]
          exact g
        · exact h (by omega)
      rcases greatF_spec t l x y d (c - 1) (by omega) with ⟨a, b⟩ | ⟨q, a, b, b2, b3, b4⟩
      · exact .inl ⟨a, fun e e0 e1 => keep e e1 (fun h => b e e0 h)⟩
      · exact .inr ⟨q, a, b, by omega, b3, fun e e0 e1 => keep e e1 (fun h => b4 e e0 h)⟩
theorem good16_l1 (c : List Int) (d : Nat) (kind : Int) (hk : 0 ≤ kind ∧ kind ≤ 3) (ih : ∀ (out : List S112) (a s : Int), Src c a s → out.length + 3 * d ≤ 12 → ∃ l a' s', Ev (fun k => spec_l16Good.l0 k out (kind + 1) c a s) (l, a', s') ∧ Src c a' s' ∧ l.length ≤ 12) : ∀ (e : Nat) (out : List S112) (p q a s : Int), Src c a s → out.length + e + 3 * d ≤ 12 → ∃ l a' s', Ev (fun k => spec_l16Good.l1 k out kind p q e c a s) (l, a', s') ∧ Src c a' s' ∧ l.length ≤ 12
  | e, out, p, q, a, s, h, hd => by
    have stop : ∃ l a' s', Ev (fun k => spec_l16Good.j2 k out kind p q e false c a s) (l, a', s') ∧ Src c a' s' ∧ l.length ≤ 12 := by
      obtain ⟨l, a', s', e1, h1⟩ := ih out a s h (by omega)
      refine ⟨l, a', s', Ev_shift ?_, h1⟩
      simp only [spec_l16Good.j2, Bool.false_eq_true, if_false, w64 (n := kind + 1) (by omega)]
      exact e1
    cases e with
    | zero =>
      obtain ⟨l, a', s', e1, h1⟩ := stop
      refine ⟨l, a', s', Ev_shift ?_, h1⟩
      simp only [spec_l16Good.l1, if_neg (show ¬ ((0 : Nat) : Int) > 0 by decide)]
      exact e1
    | succ e =>
      by_cases g : p < 300
      · obtain ⟨v1, a1, s1, e1, h1, _, _⟩ := next_some h 120 (by omega)
        obtain ⟨v2, a2, s2, e2, h2, _⟩ := pick_some h1 [30, 55, wrap64 (1 + v1), 280] (by simp) (by simp)
        obtain ⟨v3, a3, s3, e3, h3, _, _⟩ := next_some h2 300 (by omega)
        obtain ⟨l, a', s', e4, h4⟩ := good16_l1 c d kind hk ih e (out ++ [(⟨kind, mn 300 (wrap64 (p + v2)), wrap64 (q + v3)⟩ : S112)]) (mn 300 (wrap64 (p + v2))) (wrap64 (q + v3)) a3 s3 h3 (by simp; omega)
        refine ⟨l, a', s', Ev_shift ?_, h4⟩
        simp only [spec_l16Good.l1, if_pos (show ((e + 1 : Nat) : Int) > 0 by omega), decide_eq_true g]
        refine Ev_shift ?_
        simp only [spec_l16Good.j2, if_true, e1, e2, e3, Option.bind_some, if_pos (show out.length < 5864062014805 by omega), show ((e + 1 : Nat) : Int) - 1 = (e : Int) by omega, w64 (n := (e : Int)) (by omega)]
        exact e4
      · obtain ⟨l, a', s', e1, h1⟩ := stop
        refine ⟨l, a', s', Ev_shift ?_, h1⟩
        simp only [spec_l16Good.l1, if_pos (show ((e + 1 : Nat) : Int) > 0 by omega), decide_eq_false g]
        exact e1
theorem good16_l0 (c : List Int) : ∀ (d : Nat) (kind : Int) (out : List S112) (a s : Int), kind + d = 4 → 0 ≤ kind → Src c a s → out.length + 3 * d ≤ 12 → ∃ l a' s', Ev (fun k => spec_l16Good.l0 k out kind c a s) (l, a', s') ∧ Src c a' s' ∧ l.length ≤ 12
  | 0, kind, out, a, s, hk, k0, h, hd => by
    refine ⟨out, a, s, Ev_shift ?_, h, by omega⟩
    simp only [spec_l16Good.l0, if_neg (show ¬ kind < 4 by omega)]
    exact Ev.now _
  | d + 1, kind, out, a, s, hk, k0, h, hd => by
    obtain ⟨v, a1, s1, e1, h1, v0, v1⟩ := next_some h 4 (by omega)
    obtain ⟨l, a', s', e2, h2⟩ := good16_l1 c d kind (by omega) (fun out a s h hd => good16_l0 c d (kind + 1) out a s (by omega) (by omega) h hd) v.toNat out 20 0 a1 s1 h1 (by omega)
    rw [show ((v.toNat : Nat) : Int) = v by omega] at e2
    refine ⟨l, a', s', Ev_shift ?_, h2⟩
    simp only [spec_l16Good.l0, if_pos (show kind < 4 by omega), e1, Option.bind_some]
    exact e2
theorem good16_ev {c : List Int} {a s : Int} (h : Src c a s) : ∃ l a' s', Ev (fun k => spec_l16Good.f k c a s) (l, a', s') ∧ Src c a' s' ∧ l.length ≤ 12 := by
  unfold spec_l16Good.f
  exact good16_l0 c 4 0 [] a s (by omega) (by omega) h (by simp)
theorem draw16_ev {c : List Int} {a s : Int} (h : Src c a s) : ∃ l a' s', Ev (fun k => spec_l16Draw.f k c a s) (l, a', s') ∧ Src c a' s' ∧ l.length ≤ 30 := by
  obtain ⟨l, a1, s1, e1, h1, hl⟩ := good16_ev h
  by_cases g : (l.length : Int) > 0
  · obtain ⟨v, a2, s2, e2, h2, v0, v1⟩ := next_some h1 (l.length : Int) (by omega)
    obtain ⟨u, a3, s3, e3, h3, _, _⟩ := next_some h2 30 (by omega)
    have hv : v < (l.length : Int) := by omega
    by_cases c0 : u = 0
    · obtain ⟨p, a4, s4, e4, h4, _⟩ := pick_some h3 [(-1), 0, 10000, 10001] (by simp) (by simp)
      refine ⟨l.set v.toNat (⟨(rd_T112 l v).f0, (rd_T112 l v).f1, p⟩ : S112), a4, s4, ?_, h4, by simp; omega⟩
      unfold spec_l16Draw.f
      refine Ev.bind e1 ?_
      simp only [if_pos g, e2, e3, Option.bind_some, if_pos c0, e4, if_pos v0, if_pos hv]
      exact Ev.now _
    · by_cases c1 : u = 1
      · obtain ⟨p, a4, s4, e4, h4, _⟩ := pick_some h3 [19, 20, 300, 301] (by simp) (by simp)
        refine ⟨l.set v.toNat (⟨(rd_T112 l v).f0, p, (rd_T112 l v).f2⟩ : S112), a4, s4, ?_, h4, by simp; omega⟩
        unfold spec_l16Draw.f
        refine Ev.bind e1 ?_
        simp only [if_pos g, e2, e3, Option.bind_some, if_neg c0, if_pos c1, e4, if_pos v0, if_pos hv]
        exact Ev.now _
      · by_cases c2 : u = 2
        · refine ⟨l ++ [(⟨(rd_T112 l v).f0, (rd_T112 l v).f1, (rd_T112 l v).f2⟩ : S112)], a3, s3, ?_, h3, by simp; omega⟩
          unfold spec_l16Draw.f
          refine Ev.bind e1 ?_
          simp only [if_pos g, e2, e3, Option.bind_some, if_neg c0, if_neg c1, if_pos c2, if_pos v0, if_pos hv, if_pos (show l.length < 5864062014805 by omega)]
          exact Ev.now _
        · refine ⟨l, a3, s3, ?_, h3, by omega⟩
          unfold spec_l16Draw.f
          refine Ev.bind e1 ?_
          simp only [if_pos g, e2, e3, Option.bind_some, if_neg c0, if_neg c1, if_neg c2]
          exact Ev.now _
  · refine ⟨l, a1, s1, ?_, h1, by omega⟩
    unfold spec_l16Draw.f
    refine Ev.bind e1 ?_
    simp only [if_neg g]
    exact Ev.now _
theorem cal16_some {c : List Int} {a s : Int} (h : Src c a s) : ∃ v a' s', spec_l16Calibre.f c a s = some (v, a', s') ∧ Src c a' s' := by
  obtain ⟨v1, a1, s1, e1, h1, _, _⟩ := next_some h 281 (by omega)
  obtain ⟨v2, a2, s2, e2, h2, _, _⟩ := next_some h1 281 (by omega)
  obtain ⟨v3, a3, s3, e3, h3, _⟩ := pick_some h2 [19, 20, 300, 301] (by simp) (by simp)
  obtain ⟨v4, a4, s4, e4, h4, _⟩ := pick_some h3 [50, 75, 100, 150, wrap64 (20 + v1), wrap64 (20 + v2), v3] (by simp) (by simp)
  refine ⟨v4, a4, s4, ?_, h4⟩
  unfold spec_l16Calibre.f
  simp only [e1, e2, e3, e4, Option.bind_some]
theorem drawAllowed_ev (c : List Int) (hc : c.length ≤ 4096) (hb : ∀ x ∈ c, 0 ≤ x ∧ x ≤ 255) : ∃ (t : List S112) (l : List S83) (p x y : Int), Ev (fun k => spec_DrawIsAllowed.f k c) (t, l, p, x, y) ∧ t.length ≤ 30 ∧ l.length ≤ 30 := by
  obtain ⟨s, e0, h0⟩ := from_ev c hc hb
  obtain ⟨t, a1, s1, e1, h1, ht⟩ := draw16_ev h0
  obtain ⟨l, a2, s2, e2, h2, hl⟩ := site15_ev h1
  obtain ⟨x, y, a3, s3, e3, h3⟩ := at15_some h2
  obtain ⟨p, a4, s4, e4, h4⟩ := cal16_some h3
  refine ⟨t, l, p, x, y, ?_, ht, hl⟩
  unfold spec_DrawIsAllowed.f
  refine Ev.bind e0 (Ev.bind e1 (Ev.bind e2 ?_))
  simp only [e3, e4, Option.bind_some]
  exact Ev.now _
theorem drawDist_ev (c : List Int) (hc : c.length ≤ 4096) (hb : ∀ x ∈ c, 0 ≤ x ∧ x ≤ 255) : ∃ (t : List S112) (p q : Int), Ev (fun k => spec_DrawDistanceFor.f k c) (t, p, q) ∧ t.length ≤ 30 := by
  obtain ⟨s, e0, h0⟩ := from_ev c hc hb
  obtain ⟨t, a1, s1, e1, h1, ht⟩ := draw16_ev h0
  obtain ⟨p, a2, s2, e2, h2⟩ := cal16_some h1
  have jf : ∀ a s, Src c a s → ∃ p' q, Ev (fun k => spec_DrawDistanceFor.j0 k t p false c a s) (t, p', q) := fun a s h => by
    obtain ⟨v3, a3, s3, e3, h3, _, _⟩ := next_some h 4 (by omega)
    obtain ⟨v4, a4, s4, e4, h4, _, _⟩ := next_some h3 24 (by omega)
    refine ⟨p, wrap64 (v3 + wrap64 (Int.tdiv v4 23)), Ev_shift ?_⟩
    simp only [spec_DrawDistanceFor.j0, Bool.false_eq_true, if_false, e3, e4, Option.bind_some]
    exact Ev.now _
  by_cases g : (t.length : Int) > 0
  · obtain ⟨v3, a3, s3, e3, h3, _, _⟩ := next_some h2 3 (by omega)
    have : ∃ p' q, Ev (fun k => spec_DrawDistanceFor.j0 k t p (v3 == 0) c a3 s3) (t, p', q) := by
      by_cases z : v3 = 0
      · obtain ⟨v4, a4, s4, e4, h4, _, _⟩ := next_some h3 2 (by omega)
        obtain ⟨v5, a5, s5, e5, h5, _, _⟩ := next_some h4 4 (by omega)
        obtain ⟨v6, a6, s6, e6, h6, _, _⟩ := next_some h5 24 (by omega)
        refine ⟨wrap64 ((rd_T112 t 0).f1 + v4), wrap64 (v5 + wrap64 (Int.tdiv v6 23)), Ev_shift ?_⟩
        simp only [spec_DrawDistanceFor.j0, z, beq_self_eq_true, if_true, if_pos (show 0 < (t.length : Int) from g), e4, e5, e6, Option.bind_some]
        exact Ev.now _
      · rw [beq_eq_false_iff_ne.2 z]
        exact jf a3 s3 h3
    obtain ⟨p', q, e4⟩ := this
    refine ⟨t, p', q, ?_, ht⟩
    unfold spec_DrawDistanceFor.f
    refine Ev.bind e0 (Ev.bind e1 ?_)
    simp only [e2, Option.bind_some, if_pos g, e3]
    exact e4
  · obtain ⟨p', q, e4⟩ := jf a2 s2 h2
    refine ⟨t, p', q, ?_, ht⟩
    unfold spec_DrawDistanceFor.f
    refine Ev.bind e0 (Ev.bind e1 ?_)
    simp only [e2, Option.bind_some, if_neg g]
    exact e4
theorem dist_loop {t : List S112} (ht : PTab t) (htl : t.length ≤ 1000) {l : List S83} (h : PSite l) {c x y : Int} (hc : 20 ≤ c ∧ c ≤ 300) (hp : PPlace x y) : ∀ (d : Nat) (i : Int), 0 ≤ i → i + d = l.length → Ev (fun k => laws_FnDistances.l0 k t l c x y (agF t l c x y) i) true
  | 0, i, h0, hd => by
    refine Ev_shift ?_
    simp only [laws_FnDistances.l0, if_neg (show ¬ i < (l.length : Int) by omega)]
    exact Ev.now _
  | d + 1, i, h0, hd => by
    have hl := h.1
    have hi : i < (l.length : Int) := by omega
    have ha := area_at h h0 hi
    obtain ⟨s, z, eq, hz⟩ := sqToi_ev (rd_T83 l i).f0 (rd_T83 l i).f1 (rd_T83 l i).f2 (rd_T83 l i).f3 (rd_T83 l i).f4 x y
    obtain ⟨z1, z2⟩ := hz ha hp
    have hs : s = sqAt l x y i := z1
    obtain ⟨⟨n, nc⟩, _, ei, n1, n2⟩ := distfor_val t c (rd_T83 l i).f0 (by omega)
    simp only at n1 n2
    have hlen := idxF_length (fun i => decide (agP t l c x y i)) l.length 0
    have next := dist_loop ht htl h hc hp d (i + 1) (by omega) (by omega)
    have hk : 0 ≤ (rd_T83 l i).f0 ∧ (rd_T83 l i).f0 ≤ 3 := by unfold PArea at ha; omega
    have hmem : decide (i ∈ agF t l c x y) = decide (agP t l c x y i) := decide_eq_decide.2 ⟨fun g => of_decide_eq_true ((idxF_mem _ _ _ _).1 g).2.2, fun g => (idxF_mem _ _ _ _).2 ⟨h0, by omega, decide_eq_true g⟩⟩
    refine Ev_shift ?_
    simp only [laws_FnDistances.l0, if_pos hi, if_pos h0]
    refine Ev.bind ei ?_
    simp only [eq, Option.bind_some, if_pos z2]
    refine Ev.bind (hasInt_dec (agF t l c x y) (by show List.length (idxF _ _ _) ≤ _; omega) i) ?_
    rw [hmem]
    by_cases g : nc = 0
    · obtain ⟨_, _, _, g1, g2⟩ := n1 g
      have hb := dist_bd ht c (rd_T83 l i).f0
      have hdd := dd_bd hb
      have e : decide (agP t l c x y i) = decide (s < n * n) := decide_eq_decide.2 (by
        unfold agP
        rw [g2, hs]
        exact ⟨fun q => q.resolve_left (by omega), .inr⟩)
      simp only [if_pos g, g2, w64 (n := distM c (rd_T83 l i).f0 t 0 * distM c (rd_T83 l i).f0 t 0) (by omega)]
      rw [e, g2]
      simp only [bne_self_eq_false, Bool.false_eq_true, if_false, w64 (n := i + 1) (by omega)]
      exact next
    · have e : agP t l c x y i := by
        refine .inl ?_
        rcases Int.lt_or_le (distM c (rd_T83 l i).f0 t 0) 0 with q | q
        · exact q
        · exact absurd (n2 ht hc.1 hc.2 hk.1 hk.2 q) g
      simp only [if_neg g, decide_eq_true e, bne_self_eq_false, Bool.false_eq_true, if_false, w64 (n := i + 1) (by omega)]
      exact next
theorem FnDistances : laws_FnDistances.Pure := by
  intro c _ _ hw
  have hb := u8_rng hw
  by_cases big : (c.length : Int) > 4096
  · refine ⟨0, ?_⟩
    unfold laws_FnDistances.f laws_big.f
    simp only [Option.bind_some, decide_eq_true big, if_true]
  · suffices hq : Ev (fun k => laws_FnDistances.f k c) true by
      obtain ⟨K, hK⟩ := hq
      exact ⟨K, hK K (Nat.le_refl _)⟩
    obtain ⟨t, l, p, x, y, ed, ht, hl⟩ := drawAllowed_ev c (by omega) hb
    obtain ⟨t2, p2, q2, ed2, ht2⟩ := drawDist_ev c (by omega) hb
    obtain ⟨b, aS, ai, ab⟩ := allow_val t l p x y (by omega) (by omega)
    obtain ⟨m, gs, gi, gm, gl⟩ := against_val t l p x y (by omega) (by omega)
    obtain ⟨⟨g, gc⟩, rs, ri, rv⟩ := great_val t l x y (by omega) (by omega)
    obtain ⟨⟨n, nc⟩, ns, ni, n1, _⟩ := distfor_val t2 p2 q2 (by omega)
    simp only at n1
    unfold laws_FnDistances.f laws_big.f
    simp only [Option.bind_some, decide_eq_false big, Bool.false_eq_true, if_false]
    refine Ev.bind ed (Ev.bind ai (Ev.bind aS (Ev.bind gi (Ev.bind gs (Ev.bind ri (Ev.bind rs (Ev.bind ed2 (Ev.bind ni (Ev.bind ns ?_)))))))))
    simp only [if_true, bne_self_eq_false, Bool.false_eq_true, if_false]
    refine Ev.bind (likeInts_self m (by omega)) ?_
    simp only [if_true]
    have j2 : Ev (fun k => laws_FnDistances.j2 k t l p x y b (code16 t l p x y) m g gc) true := by
      refine Ev_shift ?_
      simp only [laws_FnDistances.j2]
      by_cases c0 : code16 t l p x y = 0
      · obtain ⟨h1, h2, h3, h4⟩ := code16_0.1 c0
        have eb := ab c0
        have em := gm c0
        have er := rv h1 h2 h3
        have fin : Ev (fun k => laws_FnDistances.j3 k t l p x y m false) true := by
          refine Ev_shift ?_
          simp only [laws_FnDistances.j3, Bool.false_eq_true, if_false, em]
          exact dist_loop h1 (by omega) h2 h4 h3 l.length 0 (by omega) (by omega)
        have e1 : (b != ((m.length : Int) == 0)) = false := by
          rw [eb, em]
          exact bne_self_eq_false _
        simp only [if_pos c0, e1, Bool.false_eq_true, if_false]
        rcases greatF_spec t l x y 281 300 (by omega) with ⟨a1, a2⟩ | ⟨u, a1, a2, a3, a4, a5⟩
        · rw [a1] at er
          have hgc : gc = 4 := congrArg (fun z => z.2) er
          have hf : b = false := by
            rw [eb]
            exact decide_eq_false (a2 p h4.1 h4.2)
          rw [hgc, hf]
          simp only [if_neg (show ¬ (4 : Int) = 0 by decide), bne_self_eq_false]
          exact fin
        · rw [a1] at er
          have hgc : gc = 0 := congrArg (fun z => z.2) er
          have hg : g = u := congrArg (fun z => z.1) er
          have hf : b = decide (p ≤ g) := by
            rw [eb, hg]
            refine decide_eq_decide.2 ⟨fun q => ?_, fun q => allowed_down h1 q a4⟩
            rcases Int.lt_or_le u p with r | r
            · exact absurd q (a5 p r h4.2)
            · exact r
          rw [hgc, hf]
          simp only [if_true, bne_self_eq_false]
          exact fin
      · simp only [if_neg c0]
        exact Ev.now _
    have j1 : ∀ f : Bool, (f = true → nc = 0 ∧ p2 > 20) → Ev (fun k => laws_FnDistances.j1 k t l p x y b (code16 t l p x y) m g gc t2 p2 q2 n f) true := fun f hf => by
      refine Ev_shift ?_
      simp only [laws_FnDistances.j1]
      cases f with
      | false =>
        simp only [Bool.false_eq_true, if_false]
        exact j2
      | true =>
        obtain ⟨f1, f2⟩ := hf rfl
        obtain ⟨g1, g2, g3, g4, g5⟩ := n1 f1
        obtain ⟨⟨n', nc'⟩, _, ni', m1, m2⟩ := distfor_val t2 (wrap64 (p2 - 1)) q2 (by omega)
        rw [w64 (n := p2 - 1) (by omega)] at m1 m2
        simp only at m1 m2
        have mono := (dist_mono g1 (show p2 - 1 ≤ p2 by omega) q2).resolve_left (by omega)
        have hz := m2 g1 (by omega) (by omega) g3.1 g3.2 mono.1
        have hv := (m1 hz).2.2.2.2
        simp only [if_true]
        refine Ev.bind ni' ?_
        simp only [if_pos hz, if_neg (show ¬ n' > n by omega)]
        exact j2
    refine Ev_shift ?_
    simp only [laws_FnDistances.j0, Bool.false_eq_true, if_false]
    by_cases c0 : nc = 0
    · simp only [if_pos c0]
      exact j1 _ (fun e => ⟨c0, of_decide_eq_true e⟩)
    · simp only [if_neg c0]
      exact j1 false (fun e => by cases e)
end Go.Proofs.Ytalcbcelalbhiaa.Pure
