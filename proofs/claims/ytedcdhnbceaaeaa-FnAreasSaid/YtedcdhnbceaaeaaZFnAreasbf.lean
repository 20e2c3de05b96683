/- PureFnAreas of the law FnAreas: taken over, declaration by declaration, as far as the law leans on it (the words and the printed functions are the kit's own print). No condition but what each says. -/
import Derived.Test.YtedcdhnbceaaeaaZFnAreasav
import Derived.Test.YtedcdhnbceaaeaaZFnAreasax
import Derived.Test.YtedcdhnbceaaeaaZFnAreasay
import Derived.Test.YtedcdhnbceaaeaaZFnAreasaz
import Derived.Test.YtedcdhnbceaaeaaZFnAreasba
import Derived.Test.YtedcdhnbceaaeaaZFnAreasbb
import Derived.Test.YtedcdhnbceaaeaaZFnAreasbc
import Derived.Test.YtedcdhnbceaaeaaZFnAreasbd
import Derived.Test.YtedcdhnbceaaeaaZFnAreasbe
namespace Go.Proofs.Ytedcdhnbceaaeaa.Pure
open Go.RowKit Go.Proofs.Ytedcdhnbceaaeaa.PFnAreas Go.Proofs.YtedcdhnbceaaeaaW.PrintWords Go.Proofs.YtedcdhnbceaaeaaW.PrintLast Go.Proofs.Ytedcdhnbceaaeaa.Opening
set_option linter.unusedVariables false
set_option linter.unusedSimpArgs false
theorem w64 {n : Int} (h : -9223372036854775808 ≤ n ∧ n ≤ 9223372036854775807) : wrap64 n = n := by
  unfold wrap64
  omega
theorem dec_and {p q : Prop} [Decidable p] [Decidable q] : (if decide p = true then some (decide q) else some false) = some (decide (p ∧ q)) := by
  by_cases h : p <;> simp [h]
theorem l01In_eq (a b c : Int) : spec_l01In.f a b c = some (decide (b ≤ a ∧ a ≤ c)) := by
  unfold spec_l01In.f
  by_cases h : b ≤ a <;> simp [h]
theorem within_eq (a b c : Int) : impl_within.f a b c = some (decide (b ≤ a ∧ a ≤ c)) := by
  unfold impl_within.f
  by_cases h : b ≤ a <;> simp [h]
theorem drop_cons {α : Type} {l : List α} {i : Int} {a : α} {s : List α} (z : α) (h0 : 0 ≤ i) (h : l.drop i.toNat = a :: s) : i < l.length ∧ l.getD i.toNat z = a ∧ l.drop (i + 1).toNat = s := by
  have hlt : i.toNat < l.length := by
    rcases Nat.lt_or_ge i.toNat l.length with h1 | h1
    · exact h1
    · rw [List.drop_eq_nil_of_le h1] at h; cases h
  rw [List.drop_eq_getElem_cons hlt] at h
  injection h with h1 h2
  refine ⟨by omega, ?_, ?_⟩
  · rw [List.getD_eq_getElem?_getD, List.getElem?_eq_getElem hlt]; exact h1
  · rw [show (i + 1).toNat = i.toNat + 1 by omega]; exact h2
theorem drop_nil {α : Type} {l : List α} {i : Int} (h0 : 0 ≤ i) (h : l.drop i.toNat = []) : ¬ i < (l.length : Int) := by
  have := List.drop_eq_nil_iff.1 h
  omega
theorem Ev_shift {α : Type} {g : Nat → Option α} {r : α} (h : Ev (fun k => g (k + 1)) r) : Ev g r := Ev.step (fun _ => rfl) h
theorem Ev_eq {α : Type} {g : Nat → Option α} {r q : α} (h : Ev g r) (e : r = q) : Ev g q := e ▸ h
theorem Ev_some {α : Type} {r q : α} (e : r = q) : Ev (fun _ => some r) q := e ▸ Ev.now r
/-- The numbers from i on, d of them looked at, that are told true. -/
def idxF (p : Int → Bool) : Nat → Int → List Int
  | 0, _ => []
  | d + 1, i => if p i = true then i :: idxF p d (i + 1) else idxF p d (i + 1)
theorem idxF_length (p : Int → Bool) : ∀ (d : Nat) (i : Int), (idxF p d i).length ≤ d
  | 0, _ => Nat.le_refl _
  | d + 1, i => by
    unfold idxF
    have := idxF_length p d (i + 1)
    split
    · simp only [List.length_cons]
      omega
    · omega
theorem ev_filter {ρ : Type} {L : Int → List Int → Nat → Option ρ} {p : Int → Bool} {n : Int} {fin : List Int → ρ}
    (h1 : ∀ (i : Int) (out : List Int), 0 ≤ i → i < n → (out.length : Int) ≤ i → p i = true → ∀ r, Ev (L (i + 1) (out ++ [i])) r → Ev (L i out) r)
    (h2 : ∀ (i : Int) (out : List Int), 0 ≤ i → i < n → (out.length : Int) ≤ i → p i = false → ∀ r, Ev (L (i + 1) out) r → Ev (L i out) r)
    (h3 : ∀ out : List Int, (out.length : Int) ≤ n → Ev (L n out) (fin out)) :
    ∀ (d : Nat) (i : Int) (out : List Int), 0 ≤ i → i + d = n → (out.length : Int) ≤ i → Ev (L i out) (fin (out ++ idxF p d i))
  | 0, i, out, h0, hd, hl => by
    have e : i = n := by omega
    subst e
    simp only [idxF, List.append_nil]
    exact h3 out hl
  | d + 1, i, out, h0, hd, hl => by
    unfold idxF
    cases hp : p i with
    | true =>
      refine h1 i out h0 (by omega) hl hp _ ?_
      have := ev_filter h1 h2 h3 d (i + 1) (out ++ [i]) (by omega) (by omega) (by simp; omega)
      simpa using this
    | false =>
      refine h2 i out h0 (by omega) hl hp _ ?_
      have := ev_filter h1 h2 h3 d (i + 1) out (by omega) (by omega) (by omega)
      simpa using this
theorem rd_mem {l : List Int} {i : Int} (h0 : 0 ≤ i) (h1 : i < l.length) : rd l i ∈ l := by
  have hlt : i.toNat < l.length := by omega
  have e : rd l i = l[i.toNat] := by
    show l.getD i.toNat _ = _
    rw [List.getD_eq_getElem?_getD, List.getElem?_eq_getElem hlt]
    rfl
  rw [e]
  exact List.getElem_mem hlt
theorem mx_eq (a b : Int) : mx a b = max a b := by
  unfold mx
  omega
/-- A source of drawn numbers. -/
def Src (c : List Int) (a s : Int) : Prop := (0 ≤ a ∧ a ≤ c.length ∧ c.length ≤ 4096) ∧ (0 ≤ s ∧ s < 2147483647) ∧ ∀ x ∈ c, 0 ≤ x ∧ x ≤ 255
theorem next_some {c : List Int} {a s : Int} (h : Src c a s) (n : Int) (hn : n ≤ 1000000000000) : ∃ v a' s', spec_l01Next.f c a s n = some (v, a', s') ∧ Src c a' s' ∧ 0 ≤ v ∧ (v < n ∨ v = 0) := by
  have ha := h.1
  have hs := h.2.1
  unfold spec_l01Next.f
  by_cases c1 : n ≤ 1
  · rw [if_pos c1]
    exact ⟨0, a, s, rfl, h, by omega, .inr rfl⟩
  · rw [if_neg c1]
    have w1 : wrap64 (wrap64 (s * 48271) + 29) = s * 48271 + 29 := by rw [w64 (n := s * 48271) (by omega), w64 (by omega)]
    obtain ⟨e, he⟩ : ∃ e, Int.tmod (s * 48271 + 29) 2147483647 = e := ⟨_, rfl⟩
    have e0 : 0 ≤ e := he ▸ Int.tmod_nonneg _ (by omega)
    have e1 : e < 2147483647 := he ▸ Int.tmod_lt_of_pos _ (by omega)
    obtain ⟨q, hq⟩ : ∃ q, Int.tdiv e 31 = q := ⟨_, rfl⟩
    have q0 : 0 ≤ q ∧ q ≤ e := by
      rw [← hq, Int.tdiv_eq_ediv_of_nonneg e0]
      omega
    have src : ∀ a' : Int, 0 ≤ a' → a' ≤ (c.length : Int) → Src c a' e := fun a' h0 h1 => ⟨⟨h0, h1, ha.2.2⟩, ⟨e0, e1⟩, h.2.2⟩
    have md : ∀ x, 0 ≤ x → 0 ≤ Int.tmod x n ∧ Int.tmod x n < n := fun x hx => ⟨Int.tmod_nonneg _ hx, Int.tmod_lt_of_pos _ (by omega)⟩
    by_cases c2 : a < c.length
    · have hr := h.2.2 (rd c a) (rd_mem ha.1 c2)
      simp only [w1, he, hq, w64 (n := q) (by omega), if_pos c2, if_pos ha.1, w64 (n := a + 1) (by omega), w64 (n := a + 1 - 1) (by omega), show a + 1 - 1 = a by omega, w64 (n := a) (by omega), w64 (n := rd c a) (by omega), w64 (n := q + rd c a) (by omega), if_neg (show ¬ n = 0 by omega)]
      have m1 := md (rd c a) hr.1
      have m2 := md (q + rd c a) (by omega)
      by_cases c3 : n ≤ 256
      · by_cases c4 : Int.tmod (a + 1) 2 = 0
        · simp only [if_pos c3, if_pos c4]
          exact ⟨_, a + 1, e, rfl, src (a + 1) (by omega) (by omega), m1.1, .inl m1.2⟩
        · simp only [if_pos c3, if_neg c4]
          exact ⟨_, a + 1, e, rfl, src (a + 1) (by omega) (by omega), m2.1, .inl m2.2⟩
      · simp only [if_neg c3]
        exact ⟨_, a + 1, e, rfl, src (a + 1) (by omega) (by omega), m2.1, .inl m2.2⟩
    · have m3 := md q q0.1
      simp only [w1, he, hq, w64 (n := q) (by omega), if_neg c2, if_neg (show ¬ n = 0 by omega)]
      exact ⟨_, a, e, rfl, src a ha.1 ha.2.1, m3.1, .inl m3.2⟩
theorem pick_some {c : List Int} {a s : Int} (h : Src c a s) (l : List Int) (h1 : 1 ≤ l.length) (h2 : l.length ≤ 1000) : ∃ v a' s', spec_l01Pick.f c a s l = some (v, a', s') ∧ Src c a' s' ∧ v ∈ l := by
  obtain ⟨v, a', s', e, hs, h0, hv⟩ := next_some h l.length (by omega)
  refine ⟨rd l v, a', s', ?_, hs, rd_mem h0 (by omega)⟩
  unfold spec_l01Pick.f
  rw [e]
  simp only [Option.bind_some]
  rw [if_pos h0, if_pos (by omega)]
theorem from_l0 (c : List Int) (hc : c.length ≤ 4096) (hb : ∀ x ∈ c, 0 ≤ x ∧ x ≤ 255) : ∀ (d : Nat) (i s : Int), 0 ≤ i → i + d = c.length → 0 ≤ s → s < 2147483647 → ∃ s', Ev (fun k => spec_l01From.l0 k c i c 0 s) (c, 0, s') ∧ Src c 0 s'
  | 0, i, s, h0, hd, s0, s1 => by
    refine ⟨s, Ev_shift ?_, ⟨by omega, by omega, hc⟩, ⟨s0, s1⟩, hb⟩
    simp only [spec_l01From.l0, if_neg (show ¬ i < (c.length : Int) by omega)]
    exact Ev.now _
  | d + 1, i, s, h0, hd, s0, s1 => by
    have hi : i < (c.length : Int) := by omega
    have hr := hb (rd c i) (rd_mem h0 hi)
    by_cases c2 : i < 64
    · obtain ⟨s', e, hs⟩ := from_l0 c hc hb d (i + 1) (Int.tmod (s * 83 + rd c i) 2147483647) (by omega) (by omega) (Int.tmod_nonneg _ (by omega)) (Int.tmod_lt_of_pos _ (by omega))
      refine ⟨s', Ev_shift ?_, hs⟩
      simp only [spec_l01From.l0, if_pos hi, if_pos c2, if_pos h0, w64 (n := i + 1) (by omega), w64 (n := s * 83) (by omega), w64 (n := rd c i) (by omega), w64 (n := s * 83 + rd c i) (by omega)]
      exact e
    · refine ⟨s, Ev_shift ?_, ⟨by omega, by omega, hc⟩, ⟨s0, s1⟩, hb⟩
      simp only [spec_l01From.l0, if_pos hi, if_neg c2]
      exact Ev.now _
theorem from_ev (c : List Int) (hc : c.length ≤ 4096) (hb : ∀ x ∈ c, 0 ≤ x ∧ x ≤ 255) : ∃ s, Ev (fun k => spec_l01From.f k c) (c, 0, s) ∧ Src c 0 s := by
  unfold spec_l01From.f
  exact from_l0 c hc hb c.length 0 61043 (by omega) (by omega) (by omega) (by omega)
theorem u8_rng {l : List Int} (h : ∀ x ∈ l, (Lit.int .u8 x).wf = true) : ∀ x ∈ l, 0 ≤ x ∧ x ≤ 255 := by
  intro x hx
  have := h x hx
  simp only [Lit.wf, Bool.and_eq_true, decide_eq_true_eq] at this
  have h1 : IntKind.min .u8 = 0 := by decide
  have h2 : IntKind.max .u8 = 255 := by decide
  rw [h1, h2] at this
  exact this
theorem likeInts_l0 (l : List Int) (hl : l.length ≤ 10000000) : ∀ (d : Nat) (i : Int), 0 ≤ i → i + d = l.length → Ev (fun k => laws_likeInts.l0 k l l i) true
  | 0, i, h0, hd => by
    refine Ev_shift ?_
    simp only [laws_likeInts.l0, if_neg (show ¬ i < (l.length : Int) by omega)]
    exact Ev.now _
  | d + 1, i, h0, hd => by
    refine Ev_shift ?_
    simp only [laws_likeInts.l0, if_pos (show i < (l.length : Int) by omega), if_pos h0, if_true, w64 (n := i + 1) (by omega)]
    exact likeInts_l0 l hl d (i + 1) (by omega) (by omega)
theorem likeInts_self (l : List Int) (hl : l.length ≤ 10000000) : Ev (fun k => laws_likeInts.f k l l) true := by
  unfold laws_likeInts.f
  simp only [if_true]
  exact likeInts_l0 l hl l.length 0 (by omega) (by omega)
theorem likeRows_l0 (l : List (List Int)) (hl : l.length ≤ 10000000) (hx : ∀ x ∈ l, x.length ≤ 10000000) : ∀ (d : Nat) (i : Int), 0 ≤ i → i + d = l.length → Ev (fun k => laws_likeRows.l0 k l l i) true
  | 0, i, h0, hd => by
    refine Ev_shift ?_
    simp only [laws_likeRows.l0, if_neg (show ¬ i < (l.length : Int) by omega)]
    exact Ev.now _
  | d + 1, i, h0, hd => by
    refine Ev_shift ?_
    have hlt : i.toNat < l.length := by omega
    have e : rd_L3 l i = l[i.toNat] := by
      show l.getD i.toNat _ = _
      rw [List.getD_eq_getElem?_getD, List.getElem?_eq_getElem hlt]
      rfl
    simp only [laws_likeRows.l0, if_pos (show i < (l.length : Int) by omega), if_pos h0]
    refine Ev.bind (likeInts_self _ (by rw [e]; exact hx _ (List.getElem_mem hlt))) ?_
    simp only [if_true, w64 (n := i + 1) (by omega)]
    exact likeRows_l0 l hl hx d (i + 1) (by omega) (by omega)
theorem likeRows_self (l : List (List Int)) (hl : l.length ≤ 10000000) (hx : ∀ x ∈ l, x.length ≤ 10000000) : Ev (fun k => laws_likeRows.f k l l) true := by
  unfold laws_likeRows.f
  simp only [if_true]
  exact likeRows_l0 l hl hx l.length 0 (by omega) (by omega)
theorem idxF_mem (p : Int → Bool) : ∀ (d : Nat) (i x : Int), x ∈ idxF p d i ↔ i ≤ x ∧ x < i + d ∧ p x = true
  | 0, i, x => by simp [idxF]; omega
  | d + 1, i, x => by
    unfold idxF
    have ih := idxF_mem p d (i + 1) x
    by_cases hp : p i = true
    · rw [if_pos hp, List.mem_cons, ih]
      constructor
      · rintro (rfl | h)
        · exact ⟨by omega, by omega, hp⟩
        · exact ⟨by omega, by omega, h.2.2⟩
      · rintro ⟨a, b, c⟩
        by_cases e : x = i
        · exact .inl e
        · exact .inr ⟨by omega, by omega, c⟩
    · rw [if_neg hp, ih]
      constructor
      · rintro ⟨a, b, c⟩
        exact ⟨by omega, by omega, c⟩
      · rintro ⟨a, b, c⟩
        by_cases e : x = i
        · rw [e] at c
          exact absurd c hp
        · exact ⟨by omega, by omega, c⟩
def PPlace (x y : Int) : Prop := 0 ≤ x ∧ x ≤ 100000 ∧ 0 ≤ y ∧ y ≤ 100000
instance (x y : Int) : Decidable (PPlace x y) := by unfold PPlace; infer_instance
def PArea (k x y w d : Int) : Prop := 0 ≤ k ∧ k ≤ 3 ∧ 0 ≤ x ∧ x ≤ 100000 ∧ 0 ≤ y ∧ y ≤ 100000 ∧ 1 ≤ w ∧ w ≤ 100000 - x ∧ 1 ≤ d ∧ d ≤ 100000 - y
instance (k x y w d : Int) : Decidable (PArea k x y w d) := by unfold PArea; infer_instance
theorem spec_place_eq (x y : Int) : spec_l15Place.f x y = some (decide (PPlace x y)) := by
  unfold spec_l15Place.f PPlace
  simp only [l01In_eq, Option.bind_some]
  rw [dec_and]
  congr 2
  exact propext ⟨fun h => by omega, fun h => by omega⟩
theorem impl_place_eq (x y : Int) : impl_isPlace.f x y = some (decide (PPlace x y)) := by
  unfold impl_isPlace.f PPlace
  simp only [within_eq, Option.bind_some]
  rw [dec_and]
  congr 2
  exact propext ⟨fun h => by omega, fun h => by omega⟩
theorem impl_isKind_eq (k : Int) : impl_isKind.f k = some (decide (0 ≤ k ∧ k ≤ 3)) := by
  unfold impl_isKind.f
  rw [within_eq]; rfl
theorem spec_IsArea_eq (k x y w d : Int) : spec_IsArea.f k x y w d = some (decide (PArea k x y w d)) := by
  unfold spec_IsArea.f
  simp only [l01In_eq, spec_place_eq, Option.bind_some]
  by_cases h1 : 0 ≤ k ∧ k ≤ 3
  · rw [if_pos (decide_eq_true h1)]
    by_cases h2 : PPlace x y
    · rw [if_pos (decide_eq_true h2)]
      unfold PPlace at h2
      rw [w64 (by omega), w64 (by omega), dec_and]
      congr 2
      unfold PArea
      exact propext ⟨fun h => by omega, fun h => by omega⟩
    · rw [if_neg (by simpa using h2), decide_eq_false (fun h => h2 (by unfold PArea at h; unfold PPlace; omega))]
  · rw [if_neg (by simpa using h1), decide_eq_false (fun h => h1 (by unfold PArea at h; omega))]
theorem impl_IsArea_eq (k x y w d : Int) : impl_IsArea.f k x y w d = some (decide (PArea k x y w d)) := by
  unfold impl_IsArea.f
  simp only [within_eq, impl_isKind_eq, impl_place_eq, Option.bind_some]
  by_cases h1 : 0 ≤ k ∧ k ≤ 3
  · rw [if_pos (decide_eq_true h1)]
    by_cases h2 : PPlace x y
    · rw [if_pos (decide_eq_true h2)]
      unfold PPlace at h2
      rw [w64 (by omega), w64 (by omega), dec_and]
      congr 2
      unfold PArea
      exact propext ⟨fun h => by omega, fun h => by omega⟩
    · rw [if_neg (by simpa using h2), decide_eq_false (fun h => h2 (by unfold PArea at h; unfold PPlace; omega))]
  · rw [if_neg (by simpa using h1), decide_eq_false (fun h => h1 (by unfold PArea at h; omega))]
def PSite (l : List S83) : Prop := l.length ≤ 10 ∧ ∀ a ∈ l, PArea a.f0 a.f1 a.f2 a.f3 a.f4
instance (l : List S83) : Decidable (PSite l) := by unfold PSite; infer_instance
theorem spec_IsSite_l0 (l : List S83) (hn : l.length ≤ 140737488351232) : ∀ (s : List S83) (i : Int) (k : Nat), 0 ≤ i → l.drop i.toNat = s → s.length < k → spec_IsSite.l0 k l i = some (decide (l.length ≤ 10 ∧ ∀ a ∈ s, PArea a.f0 a.f1 a.f2 a.f3 a.f4))
  | [], i, k, h0, h, hk => by
    obtain ⟨k, rfl⟩ : ∃ m, k = m + 1 := ⟨k - 1, by omega⟩
    simp only [spec_IsSite.l0]
    rw [if_neg (drop_nil h0 h)]
    congr 2
    simp
    omega
  | a :: s, i, k, h0, h, hk => by
    obtain ⟨k, rfl⟩ : ∃ m, k = m + 1 := ⟨k - 1, by simp at hk; omega⟩
    obtain ⟨h1, h2, h3⟩ := drop_cons z83 h0 h
    have h2' : rd_T83 l i = a := h2
    simp only [spec_IsSite.l0]
    rw [if_pos h1, if_pos h0, h2', spec_IsArea_eq, Option.bind_some]
    by_cases hp : PArea a.f0 a.f1 a.f2 a.f3 a.f4
    · rw [if_pos (decide_eq_true hp), w64 (by omega), spec_IsSite_l0 l hn s (i + 1) k (by omega) h3 (by simpa using hk)]
      congr 2
      simp [hp]
    · rw [if_neg (by simpa using hp)]
      congr 1
      simp [hp]
theorem spec_IsSite_f (l : List S83) (hn : l.length ≤ 140737488351232) (k : Nat) (hk : l.length < k) : spec_IsSite.f k l = some (decide (PSite l)) := by
  unfold spec_IsSite.f PSite
  exact spec_IsSite_l0 l hn l 0 k (by omega) rfl hk
theorem impl_IsSite_l0 (l : List S83) (hn : l.length ≤ 140737488351232) : ∀ (s : List S83) (i : Int) (k : Nat), 0 ≤ i → l.drop i.toNat = s → s.length < k → impl_IsSite.l0 k l l.length i = some (decide (∀ a ∈ s, PArea a.f0 a.f1 a.f2 a.f3 a.f4))
  | [], i, k, h0, h, hk => by
    obtain ⟨k, rfl⟩ : ∃ m, k = m + 1 := ⟨k - 1, by omega⟩
    simp only [impl_IsSite.l0]
    rw [if_neg (drop_nil h0 h)]
    simp
  | a :: s, i, k, h0, h, hk => by
    obtain ⟨k, rfl⟩ : ∃ m, k = m + 1 := ⟨k - 1, by simp at hk; omega⟩
    obtain ⟨h1, h2, h3⟩ := drop_cons z83 h0 h
    have h2' : rd_T83 l i = a := h2
    simp only [impl_IsSite.l0]
    rw [if_pos h1, if_pos h0, if_pos h1, h2', impl_IsArea_eq, Option.bind_some]
    by_cases hp : PArea a.f0 a.f1 a.f2 a.f3 a.f4
    · rw [if_pos (decide_eq_true hp), w64 (by omega), impl_IsSite_l0 l hn s (i + 1) k (by omega) h3 (by simpa using hk)]
      congr 2
      simp [hp]
    · rw [if_neg (by simpa using hp)]
      congr 1
      simp [hp]
theorem impl_IsSite_f (l : List S83) (hn : l.length ≤ 140737488351232) (k : Nat) (hk : l.length < k) : impl_IsSite.f k l = some (decide (PSite l)) := by
  unfold impl_IsSite.f
  rw [impl_IsSite_l0 l hn l 0 k (by omega) rfl hk]
  by_cases h : (l.length : Int) > 10
  · rw [if_pos h, decide_eq_false (p := PSite l) (fun hh => by have := hh.1; omega)]
  · rw [if_neg h]
    congr 1
    exact decide_eq_decide.2 ⟨fun hh => (⟨by omega, hh⟩ : PSite l), fun hh => hh.2⟩
/-- How far a coordinate is from a range. -/
def PAway (x a w : Int) : Int := max (max 0 (a - x)) (x - a - w)
def PSq (X Y W D x y : Int) : Int := PAway x X W * PAway x X W + PAway y Y D * PAway y Y D
theorem PAway_bd {x a w : Int} (h : 0 ≤ x ∧ x ≤ 100000) (ha : 0 ≤ a ∧ a ≤ 100000) (hw : 1 ≤ w ∧ w ≤ 100000 - a) : 0 ≤ PAway x a w ∧ PAway x a w ≤ 100000 := by
  unfold PAway
  omega
theorem sq_bd {d : Int} (h : 0 ≤ d ∧ d ≤ 100000) : 0 ≤ d * d ∧ d * d ≤ 10000000000 := by
  have h1 : d * d ≤ 100000 * d := Int.mul_le_mul_of_nonneg_right h.2 h.1
  have h2 : 0 ≤ d * d := Int.mul_nonneg h.1 h.1
  omega
theorem spec_away_eq {x a w : Int} (h : 0 ≤ x ∧ x ≤ 100000) (ha : 0 ≤ a ∧ a ≤ 100000) (hw : 1 ≤ w ∧ w ≤ 100000 - a) : spec_l15Away.f x a (wrap64 (a + w)) = some (PAway x a w) := by
  unfold spec_l15Away.f PAway
  rw [w64 (n := a + w) (by omega), w64 (n := a - x) (by omega), w64 (n := x - (a + w)) (by omega), mx_eq, mx_eq]
  congr 1
  omega
theorem spec_Square_eq {K X Y W D x y : Int} (hp : PPlace x y) (ha : PPlace X Y) (hw : 1 ≤ W ∧ W ≤ 100000 - X) (hd : 1 ≤ D ∧ D ≤ 100000 - Y) : spec_l15Square.f K X Y W D x y = some (PSq X Y W D x y) := by
  unfold PPlace at *
  unfold spec_l15Square.f PSq
  rw [spec_away_eq (by omega) (by omega) hw, Option.bind_some, spec_away_eq (by omega) (by omega) hd, Option.bind_some]
  have h1 := sq_bd (PAway_bd (x := x) (a := X) (w := W) (by omega) (by omega) hw)
  have h2 := sq_bd (PAway_bd (x := y) (a := Y) (w := D) (by omega) (by omega) hd)
  rw [w64 (n := PAway x X W * PAway x X W) (by omega), w64 (n := PAway y Y D * PAway y Y D) (by omega), w64 (by omega)]
theorem impl_square_eq {K X Y W D x y : Int} (hp : PPlace x y) (ha : PPlace X Y) (hw : 1 ≤ W ∧ W ≤ 100000 - X) (hd : 1 ≤ D ∧ D ≤ 100000 - Y) : impl_squareTo.f K X Y W D x y = some (PSq X Y W D x y) := by
  unfold PPlace at *
  unfold impl_squareTo.f
  rw [w64 (n := X - x) (by omega), w64 (n := x - X) (by omega), w64 (n := x - X - W) (by omega), w64 (n := Y - y) (by omega), w64 (n := y - Y) (by omega), w64 (n := y - Y - D) (by omega)]
  simp only [mx_eq]
  have h1 := sq_bd (PAway_bd (x := x) (a := X) (w := W) (by omega) (by omega) hw)
  have h2 := sq_bd (PAway_bd (x := y) (a := Y) (w := D) (by omega) (by omega) hd)
  show some (wrap64 (wrap64 (PAway x X W * PAway x X W) + wrap64 (PAway y Y D * PAway y Y D))) = some (PSq X Y W D x y)
  rw [w64 (n := PAway x X W * PAway x X W) (by omega), w64 (n := PAway y Y D * PAway y Y D) (by omega), w64 (by omega)]
  rfl
theorem spec_l15Code_f (l : List S83) (hn : l.length ≤ 140737488351232) (k : Nat) (hk : l.length < k) (kind x y : Int) : spec_l15Code.f k l kind x y = some (if PSite l then (if PPlace x y ∧ 0 ≤ kind ∧ kind ≤ 3 then 0 else 2) else 1) := by
  unfold spec_l15Code.f
  rw [spec_IsSite_f l hn k hk, Option.bind_some]
  by_cases h : PSite l
  · rw [if_pos (decide_eq_true h), if_pos h, spec_place_eq, Option.bind_some]
    by_cases h2 : PPlace x y
    · rw [if_pos (decide_eq_true h2), l01In_eq, Option.bind_some]
      by_cases h3 : 0 ≤ kind ∧ kind ≤ 3
      · rw [if_pos (decide_eq_true h3), if_pos ⟨h2, h3⟩]
      · rw [if_neg (by simpa using h3), if_neg (fun h => h3 h.2)]
    · rw [if_neg (by simpa using h2), if_neg (fun h => h2 h.1)]
  · rw [if_neg (by simpa using h), if_neg h]
theorem spec_IsSite_ev (l : List S83) (hn : l.length ≤ 140737488351232) : Ev (fun k => spec_IsSite.f k l) (decide (PSite l)) := ⟨l.length + 1, fun k hk => spec_IsSite_f l hn k (by omega)⟩
theorem impl_IsSite_ev (l : List S83) (hn : l.length ≤ 140737488351232) : Ev (fun k => impl_IsSite.f k l) (decide (PSite l)) := ⟨l.length + 1, fun k hk => impl_IsSite_f l hn k (by omega)⟩
theorem area_at {l : List S83} (h : PSite l) {i : Int} (h0 : 0 ≤ i) (h1 : i < l.length) : PArea (rd_T83 l i).f0 (rd_T83 l i).f1 (rd_T83 l i).f2 (rd_T83 l i).f3 (rd_T83 l i).f4 := by
  have hlt : i.toNat < l.length := by omega
  have e : rd_T83 l i = l[i.toNat] := by
    show l.getD i.toNat _ = _
    rw [List.getD_eq_getElem?_getD, List.getElem?_eq_getElem hlt]
    rfl
  rw [e]
  exact h.2 _ (List.getElem_mem hlt)
/-- The square distance of a place from the area with an index. -/
def sqAt (l : List S83) (x y i : Int) : Int := PSq (rd_T83 l i).f1 (rd_T83 l i).f2 (rd_T83 l i).f3 (rd_T83 l i).f4 x y
theorem spec_sqAt {l : List S83} (h : PSite l) {x y : Int} (hp : PPlace x y) {i : Int} (h0 : 0 ≤ i) (h1 : i < l.length) : spec_l15Square.f (rd_T83 l i).f0 (rd_T83 l i).f1 (rd_T83 l i).f2 (rd_T83 l i).f3 (rd_T83 l i).f4 x y = some (sqAt l x y i) := by
  have ha := area_at h h0 h1
  unfold PArea at ha
  exact spec_Square_eq hp (by unfold PPlace; omega) (by omega) (by omega)
theorem impl_sqAt {l : List S83} (h : PSite l) {x y : Int} (hp : PPlace x y) {i : Int} (h0 : 0 ≤ i) (h1 : i < l.length) : impl_squareTo.f (rd_T83 l i).f0 (rd_T83 l i).f1 (rd_T83 l i).f2 (rd_T83 l i).f3 (rd_T83 l i).f4 x y = some (sqAt l x y i) := by
  have ha := area_at h h0 h1
  unfold PArea at ha
  exact impl_square_eq hp (by unfold PPlace; omega) (by omega) (by omega)
theorem spec_l15Code_ev (l : List S83) (hn : l.length ≤ 140737488351232) (kind x y : Int) : Ev (fun k => spec_l15Code.f k l kind x y) (if PSite l then (if PPlace x y ∧ 0 ≤ kind ∧ kind ≤ 3 then 0 else 2) else 1) := ⟨l.length + 1, fun k hk => spec_l15Code_f l hn k (by omega) kind x y⟩
theorem sq_le {a : Int} (h : 0 ≤ a ∧ a ≤ 100000) : 0 ≤ a * a ∧ a * a ≤ 10000000000 := by
  have h1 := Int.mul_nonneg h.1 h.1
  have h2 := Int.mul_self_le_mul_self h.1 h.2
  omega
theorem spec_within_ev {l : List S83} (h : PSite l) {x y : Int} (hp : PPlace x y) {c : Int} (hc : 0 ≤ c ∧ c ≤ 100000) : Ev (fun k => spec_AreasWithin.l0 k l x y c [] 0) (idxF (fun i => decide (sqAt l x y i ≤ c * c)) l.length 0, 0) := by
  have hl := h.1
  have hq := sq_le hc
  have := ev_filter (L := fun i out k => spec_AreasWithin.l0 k l x y c out i) (p := fun i => decide (sqAt l x y i ≤ c * c)) (n := l.length) (fin := fun out => (out, (0 : Int)))
    (fun i out h0 h1 h2 hp' r hr => by
      refine Ev_shift ?_
      simp only [spec_AreasWithin.l0, if_pos h1, if_pos h0, spec_sqAt h hp h0 h1, Option.bind_some, w64 (n := c * c) (by omega), if_pos (of_decide_eq_true hp'), if_pos (show out.length < 17592186044416 by omega), w64 (n := i + 1) (by omega)]
      exact hr)
    (fun i out h0 h1 h2 hp' r hr => by
      refine Ev_shift ?_
      simp only [spec_AreasWithin.l0, if_pos h1, if_pos h0, spec_sqAt h hp h0 h1, Option.bind_some, w64 (n := c * c) (by omega), if_neg (of_decide_eq_false hp'), w64 (n := i + 1) (by omega)]
      exact hr)
    (fun out h2 => by
      refine Ev_shift ?_
      simp only [spec_AreasWithin.l0, if_neg (show ¬ (l.length : Int) < l.length by omega)]
      exact Ev.now _) l.length 0 [] (by omega) (by omega) (by simp)
  exact this
theorem impl_within_ev {l : List S83} (h : PSite l) {x y : Int} (hp : PPlace x y) {c : Int} (hc : 0 ≤ c ∧ c ≤ 100000) : Ev (fun k => impl_AreasWithin.l0 k x y c [] l l.length 0) (idxF (fun i => decide (sqAt l x y i ≤ c * c)) l.length 0, 0) := by
  have hl := h.1
  have hq := sq_le hc
  have := ev_filter (L := fun i out k => impl_AreasWithin.l0 k x y c out l l.length i) (p := fun i => decide (sqAt l x y i ≤ c * c)) (n := l.length) (fin := fun out => (out, (0 : Int)))
    (fun i out h0 h1 h2 hp' r hr => by
      refine Ev_shift ?_
      simp only [impl_AreasWithin.l0, if_pos h1, if_pos h0, impl_sqAt h hp h0 h1, Option.bind_some, w64 (n := c * c) (by omega), if_pos (of_decide_eq_true hp'), if_pos (show out.length < 17592186044416 by omega), w64 (n := i + 1) (by omega)]
      exact hr)
    (fun i out h0 h1 h2 hp' r hr => by
      refine Ev_shift ?_
      simp only [impl_AreasWithin.l0, if_pos h1, if_pos h0, impl_sqAt h hp h0 h1, Option.bind_some, w64 (n := c * c) (by omega), if_neg (of_decide_eq_false hp'), w64 (n := i + 1) (by omega)]
      exact hr)
    (fun out h2 => by
      refine Ev_shift ?_
      simp only [impl_AreasWithin.l0, if_neg (show ¬ (l.length : Int) < l.length by omega)]
      exact Ev.now _) l.length 0 [] (by omega) (by omega) (by simp)
  exact this
theorem good15_some {c : List Int} {a s : Int} (h : Src c a s) : ∃ k x y w d a' s', spec_l15Good.f c a s = some (k, x, y, w, d, a', s') ∧ Src c a' s' := by
  obtain ⟨v1, a1, s1, e1, h1, _, _⟩ := next_some h 4 (by omega)
  obtain ⟨v2, a2, s2, e2, h2, _, _⟩ := next_some h1 2000 (by omega)
  obtain ⟨v3, a3, s3, e3, h3, _, _⟩ := next_some h2 2000 (by omega)
  obtain ⟨v4, a4, s4, e4, h4, _, _⟩ := next_some h3 400 (by omega)
  obtain ⟨v5, a5, s5, e5, h5, _, _⟩ := next_some h4 400 (by omega)
  refine ⟨v1, v2, v3, wrap64 (1 + v4), wrap64 (1 + v5), a5, s5, ?_, h5⟩
  unfold spec_l15Good.f
  simp only [e1, e2, e3, e4, e5, Option.bind_some]
theorem draw15_some {c : List Int} {a s : Int} (h : Src c a s) : ∃ k x y w d a' s', spec_l15Draw.f c a s = some (k, x, y, w, d, a', s') ∧ Src c a' s' := by
  obtain ⟨k, x, y, w, d, a1, s1, e1, h1⟩ := good15_some h
  obtain ⟨v, a2, s2, e2, h2, _, _⟩ := next_some h1 60 (by omega)
  unfold spec_l15Draw.f
  simp only [e1, e2, Option.bind_some]
  by_cases c0 : v = 0
  · obtain ⟨p, a3, s3, e3, h3, _⟩ := pick_some h2 [(-1), 4] (by simp) (by simp)
    simp only [if_pos c0, e3, Option.bind_some]
    exact ⟨_, _, _, _, _, a3, s3, rfl, h3⟩
  · by_cases c1 : v = 1
    · obtain ⟨p, a3, s3, e3, h3, _⟩ := pick_some h2 [0, wrap64 (100000 - x), wrap64 ((wrap64 (100000 - x)) + 1)] (by simp) (by simp)
      simp only [if_neg c0, if_pos c1, e3, Option.bind_some]
      exact ⟨_, _, _, _, _, a3, s3, rfl, h3⟩
    · by_cases c2 : v = 2
      · obtain ⟨p, a3, s3, e3, h3, _⟩ := pick_some h2 [(-1), 0, 100000] (by simp) (by simp)
        simp only [if_neg c0, if_neg c1, if_pos c2, e3, Option.bind_some]
        exact ⟨_, _, _, _, _, a3, s3, rfl, h3⟩
      · simp only [if_neg c0, if_neg c1, if_neg c2]
        exact ⟨_, _, _, _, _, a2, s2, rfl, h2⟩
theorem fill15_l1 (c : List Int) : ∀ (d : Nat) (out : List S83) (a s : Int), Src c a s → 12 ≤ out.length + d → out.length ≤ 12 → ∃ l a' s', Ev (fun k => spec_l15Site.l1 k out c a s) (l, a', s') ∧ Src c a' s' ∧ l.length ≤ 30
  | d, out, a, s, h, hd, ho => by
    obtain ⟨v, a1, s1, e1, h1, v0, v1⟩ := next_some h 2 (by omega)
    by_cases c1 : (out.length : Int) < 10 + v
    · cases d with
      | zero => omega
      | succ d =>
        obtain ⟨k, x, y, w, dd, a2, s2, e2, h2⟩ := good15_some h1
        obtain ⟨l, a', s', e, hs, hl⟩ := fill15_l1 c d (out ++ [(⟨k, x, y, w, dd⟩ : S83)]) a2 s2 h2 (by simp; omega) (by simp; omega)
        refine ⟨l, a', s', Ev_shift ?_, hs, hl⟩
        simp only [spec_l15Site.l1, e1, e2, Option.bind_some, w64 (n := 10 + v) (by omega), if_pos c1, if_pos (show out.length < 3518437208883 by omega)]
        exact e
    · refine ⟨out, a1, s1, Ev_shift ?_, h1, by omega⟩
      simp only [spec_l15Site.l1, e1, Option.bind_some, w64 (n := 10 + v) (by omega), if_neg c1]
      exact Ev.now _
theorem site15_l0 (c : List Int) : ∀ (d : Nat) (out : List S83) (a s : Int), Src c a s → out.length + d ≤ 6 → ∃ l a' s', Ev (fun k => spec_l15Site.l0 k out d c a s) (l, a', s') ∧ Src c a' s' ∧ l.length ≤ 30
  | 0, out, a, s, h, hd => by
    obtain ⟨v, a1, s1, e1, h1, v0, v1⟩ := next_some h 30 (by omega)
    by_cases c0 : v = 0
    · obtain ⟨l, a', s', e, hs, hl⟩ := fill15_l1 c 12 out a1 s1 h1 (by omega) (by omega)
      refine ⟨l, a', s', Ev_shift ?_, hs, hl⟩
      simp only [spec_l15Site.l0, if_neg (show ¬ ((0 : Nat) : Int) > 0 by decide), e1, Option.bind_some, if_pos c0]
      exact e
    · refine ⟨out, a1, s1, Ev_shift ?_, h1, by omega⟩
      simp only [spec_l15Site.l0, if_neg (show ¬ ((0 : Nat) : Int) > 0 by decide), e1, Option.bind_some, if_neg c0]
      exact Ev.now _
  | d + 1, out, a, s, h, hd => by
    obtain ⟨k, x, y, w, dd, a2, s2, e2, h2⟩ := draw15_some h
    obtain ⟨l, a', s', e, hs, hl⟩ := site15_l0 c d (out ++ [(⟨k, x, y, w, dd⟩ : S83)]) a2 s2 h2 (by simp; omega)
    refine ⟨l, a', s', Ev_shift ?_, hs, hl⟩
    simp only [spec_l15Site.l0, if_pos (show ((d + 1 : Nat) : Int) > 0 by omega), e2, Option.bind_some, if_pos (show out.length < 3518437208883 by omega), w64 (n := ((d + 1 : Nat) : Int) - 1) (by omega), show ((d + 1 : Nat) : Int) - 1 = (d : Int) by omega, w64 (n := (d : Int)) (by omega)]
    exact e
theorem site15_ev {c : List Int} {a s : Int} (h : Src c a s) : ∃ l a' s', Ev (fun k => spec_l15Site.f k c a s) (l, a', s') ∧ Src c a' s' ∧ l.length ≤ 30 := by
  obtain ⟨v, a1, s1, e1, h1, v0, v1⟩ := next_some h 6 (by omega)
  obtain ⟨l, a', s', e, hs, hl⟩ := site15_l0 c v.toNat [] a1 s1 h1 (by simp; omega)
  rw [show ((v.toNat : Nat) : Int) = v by omega] at e
  refine ⟨l, a', s', ?_, hs, hl⟩
  unfold spec_l15Site.f
  simp only [e1, Option.bind_some]
  exact e
theorem at15_some {c : List Int} {a s : Int} (h : Src c a s) : ∃ x y a' s', spec_l15At.f c a s = some (x, y, a', s') ∧ Src c a' s' := by
  obtain ⟨v, a1, s1, e1, h1, v0, v1⟩ := next_some h 24 (by omega)
  unfold spec_l15At.f
  simp only [e1, Option.bind_some]
  by_cases c0 : v = 0
  · obtain ⟨p, a2, s2, e2, h2, _⟩ := pick_some h1 [(-1), 0, 100000, 100001] (by simp) (by simp)
    obtain ⟨q, a3, s3, e3, h3, _, _⟩ := next_some h2 2000 (by omega)
    simp only [if_pos c0, e2, e3, Option.bind_some]
    exact ⟨_, _, a3, s3, rfl, h3⟩
  · obtain ⟨p, a2, s2, e2, h2, _, _⟩ := next_some h1 2400 (by omega)
    obtain ⟨q, a3, s3, e3, h3, _, _⟩ := next_some h2 2400 (by omega)
    simp only [if_neg c0, e2, e3, Option.bind_some]
    exact ⟨_, _, a3, s3, rfl, h3⟩
theorem hasIntd_l0 (l : List Int) (hn : l.length ≤ 1000000) (x : Int) : ∀ (s : List Int) (i : Int), 0 ≤ i → l.drop i.toNat = s → Ev (fun k => laws_hasInt.l0 k l x i) (decide (x ∈ s))
  | [], i, h0, h => by
    refine Ev_shift ?_
    simp only [laws_hasInt.l0, if_neg (drop_nil h0 h)]
    exact Ev_some (by simp)
  | a :: s, i, h0, h => by
    refine Ev_shift ?_
    obtain ⟨h1, h2, h3⟩ := drop_cons 0 h0 h
    have h2' : rd l i = a := h2
    by_cases e : a = x
    · simp only [laws_hasInt.l0, if_pos h1, if_pos h0, h2', if_pos e]
      exact Ev_some (by simp [e])
    · simp only [laws_hasInt.l0, if_pos h1, if_pos h0, h2', if_neg e, w64 (n := i + 1) (by omega)]
      refine Ev_eq (hasIntd_l0 l hn x s (i + 1) (by omega) h3) ?_
      simp [Ne.symm e]
theorem hasInt_dec (l : List Int) (hn : l.length ≤ 1000000) (x : Int) : Ev (fun k => laws_hasInt.f k l x) (decide (x ∈ l)) := by
  unfold laws_hasInt.f
  exact hasIntd_l0 l hn x l 0 (by omega) rfl
theorem sqToi_ev (k x y w d p q : Int) : ∃ s c, impl_SquareTo.f k x y w d p q = some (s, c) ∧ (PArea k x y w d → PPlace p q → s = PSq x y w d p q ∧ c = 0) := by
  unfold impl_SquareTo.f
  by_cases h : PArea k x y w d
  · by_cases h2 : PPlace p q
    · have ha := h
      unfold PArea at ha
      simp only [impl_IsArea_eq, impl_place_eq, Option.bind_some, decide_eq_true h, decide_eq_true h2, if_true, impl_square_eq h2 (show PPlace x y by unfold PPlace; omega) (show 1 ≤ w ∧ w ≤ 100000 - x by omega) (show 1 ≤ d ∧ d ≤ 100000 - y by omega)]
      exact ⟨_, _, rfl, fun _ _ => ⟨rfl, rfl⟩⟩
    · simp only [impl_IsArea_eq, impl_place_eq, Option.bind_some, decide_eq_true h, decide_eq_false h2, if_true, Bool.false_eq_true, if_false]
      exact ⟨_, _, rfl, fun _ x => absurd x h2⟩
  · simp only [impl_IsArea_eq, Option.bind_some, decide_eq_false h, Bool.false_eq_true, if_false]
    exact ⟨_, _, rfl, fun x => absurd x h⟩
theorem within_val (m0 : List S83) (a1 : Int) (a2 : Int) (a3 : Int) (hn0 : m0.length ≤ 1000000) : ∃ q : List Int × Int, Ev (fun k => spec_AreasWithin.f k m0 a1 a2 a3) q ∧ Ev (fun k => impl_AreasWithin.f k m0 a1 a2 a3) q ∧ q.1.length ≤ 1000 ∧ (q.2 = 0 → PSite m0 ∧ PPlace a1 a2 ∧ (0 ≤ a3 ∧ a3 ≤ 100000) ∧ q.1 = idxF (fun i => decide (sqAt m0 a1 a2 i ≤ a3 * a3)) m0.length 0) := by
  have hs := spec_l15Code_ev m0 (by omega) 0 a1 a2
  have hi := impl_IsSite_ev m0 (by omega)
  have jb : ∀ c : Int, c ≠ 0 → Ev (fun k => spec_AreasWithin.j1 k m0 a1 a2 a3 c) (([] : List Int), c) := fun c hc => by
    refine Ev_shift ?_
    simp only [spec_AreasWithin.j1, if_neg hc]
    exact Ev.now _
  have jf : ∀ c q, Ev (fun k => spec_AreasWithin.j1 k m0 a1 a2 a3 c) q → Ev (fun k => spec_AreasWithin.j0 k m0 a1 a2 a3 c false) q := fun c q hq => by
    refine Ev_shift ?_
    simp only [spec_AreasWithin.j0, Bool.false_eq_true, if_false]
    exact hq
  have bad : Ev (fun k => impl_AreasWithin.j0 k m0 a1 a2 a3 true) (([] : List Int), (2 : Int)) := by
    refine Ev_shift ?_
    simp only [impl_AreasWithin.j0, if_true]
    exact Ev.now _
  by_cases h : PSite m0
  · rw [if_pos h] at hs
    by_cases c2 : PPlace a1 a2
    · rw [if_pos ⟨c2, by omega, by omega⟩] at hs
      by_cases c3 : 0 ≤ a3 ∧ a3 ≤ 100000
      · have hl0 := h.1
        have hlen := idxF_length (fun i => decide (sqAt m0 a1 a2 i ≤ a3 * a3)) m0.length 0
        refine ⟨(idxF (fun i => decide (sqAt m0 a1 a2 i ≤ a3 * a3)) m0.length 0, 0), ?_, ?_, by show List.length (idxF _ _ _) ≤ _; omega, fun _ => ⟨h, c2, c3, rfl⟩⟩
        · unfold spec_AreasWithin.f
          refine Ev.bind hs ?_
          simp only [if_true, l01In_eq, Option.bind_some, decide_eq_true c3, Bool.not_true]
          refine jf _ _ (Ev_shift ?_)
          simp only [spec_AreasWithin.j1, if_true]
          exact spec_within_ev h c2 c3
        · unfold impl_AreasWithin.f
          refine Ev.bind hi ?_
          simp only [decide_eq_true h, if_true, impl_place_eq, within_eq, Option.bind_some, decide_eq_true c2, decide_eq_true c3, Bool.not_true]
          refine Ev_shift ?_
          simp only [impl_AreasWithin.j0, Bool.false_eq_true, if_false]
          exact impl_within_ev h c2 c3
      · refine ⟨([], 2), ?_, ?_, by simp, fun e => absurd e (by decide)⟩
        · unfold spec_AreasWithin.f
          refine Ev.bind hs ?_
          simp only [if_true, l01In_eq, Option.bind_some, decide_eq_false c3, Bool.not_false]
          refine Ev_shift ?_
          simp only [spec_AreasWithin.j0, if_true]
          exact jb 2 (by omega)
        · unfold impl_AreasWithin.f
          refine Ev.bind hi ?_
          simp only [decide_eq_true h, if_true, impl_place_eq, within_eq, Option.bind_some, decide_eq_true c2, decide_eq_false c3, Bool.not_false]
          exact bad
    · rw [if_neg (fun hh => c2 hh.1)] at hs
      refine ⟨([], 2), ?_, ?_, by simp, fun e => absurd e (by decide)⟩
      · unfold spec_AreasWithin.f
        refine Ev.bind hs ?_
        simp only [if_neg (show ¬ (2 : Int) = 0 by decide)]
        exact jf _ _ (jb 2 (by omega))
      · unfold impl_AreasWithin.f
        refine Ev.bind hi ?_
        simp only [decide_eq_true h, if_true, impl_place_eq, Option.bind_some, decide_eq_false c2, Bool.false_eq_true, if_false]
        exact bad
  · rw [if_neg h] at hs
    refine ⟨([], 1), ?_, ?_, by simp, fun e => absurd e (by decide)⟩
    · unfold spec_AreasWithin.f
      refine Ev.bind hs ?_
      simp only [if_neg (show ¬ (1 : Int) = 0 by decide)]
      exact jf _ _ (jb 1 (by omega))
    · unfold impl_AreasWithin.f
      refine Ev.bind hi ?_
      simp only [decide_eq_false h, Bool.false_eq_true, if_false]
      exact Ev.now _
/-- Two areas overlap. -/
def ovP (l : List S83) (i j : Int) : Prop := (rd_T83 l i).f1 ≤ (rd_T83 l j).f1 + (rd_T83 l j).f3 ∧ (rd_T83 l j).f1 ≤ (rd_T83 l i).f1 + (rd_T83 l i).f3 ∧ (rd_T83 l i).f2 ≤ (rd_T83 l j).f2 + (rd_T83 l j).f4 ∧ (rd_T83 l j).f2 ≤ (rd_T83 l i).f2 + (rd_T83 l i).f4
instance (l : List S83) (i j : Int) : Decidable (ovP l i j) := by unfold ovP; infer_instance
/-- The pairs of one area with those behind it. -/
def ovF1 (l : List S83) (i : Int) : Nat → Int → List (List Int)
  | 0, _ => []
  | d + 1, j => if ovP l i j then [i, j] :: ovF1 l i d (j + 1) else ovF1 l i d (j + 1)
def ovF0 (l : List S83) : Nat → Int → List (List Int)
  | 0, _ => []
  | d + 1, i => ovF1 l i d (i + 1) ++ ovF0 l d (i + 1)
theorem ovF1_mem (l : List S83) (i : Int) : ∀ (d : Nat) (j : Int) (r : List Int), r ∈ ovF1 l i d j ↔ ∃ x : Int, j ≤ x ∧ x < j + d ∧ ovP l i x ∧ r = [i, x]
  | 0, j, r => by
    simp [ovF1]
    intro x h1 h2
    omega
  | d + 1, j, r => by
    have ih := ovF1_mem l i d (j + 1) r
    unfold ovF1
    by_cases c : ovP l i j
    · rw [if_pos c, List.mem_cons, ih]
      constructor
      · rintro (e | ⟨x, h1, h2, h3, h4⟩)
        · exact ⟨j, by omega, by omega, c, e⟩
        · exact ⟨x, by omega, by omega, h3, h4⟩
      · rintro ⟨x, h1, h2, h3, h4⟩
        by_cases e : x = j
        · rw [e] at h4
          exact .inl h4
        · exact .inr ⟨x, by omega, by omega, h3, h4⟩
    · rw [if_neg c, ih]
      constructor
      · rintro ⟨x, h1, h2, h3, h4⟩
        exact ⟨x, by omega, by omega, h3, h4⟩
      · rintro ⟨x, h1, h2, h3, h4⟩
        by_cases e : x = j
        · rw [e] at h3
          exact absurd h3 c
        · exact ⟨x, by omega, by omega, h3, h4⟩
theorem ovF0_mem (l : List S83) : ∀ (d : Nat) (i : Int) (r : List Int), r ∈ ovF0 l d i ↔ ∃ a x : Int, i ≤ a ∧ a < x ∧ x < i + d ∧ ovP l a x ∧ r = [a, x]
  | 0, i, r => by
    simp [ovF0]
    intro a h1 x h2 h3
    omega
  | d + 1, i, r => by
    unfold ovF0
    rw [List.mem_append, ovF1_mem, ovF0_mem l d (i + 1)]
    constructor
    · rintro (⟨x, h1, h2, h3, h4⟩ | ⟨a, x, h1, h2, h3, h4, h5⟩)
      · exact ⟨i, x, by omega, by omega, by omega, h3, h4⟩
      · exact ⟨a, x, by omega, h2, by omega, h4, h5⟩
    · rintro ⟨a, x, h1, h2, h3, h4, h5⟩
      by_cases e : a = i
      · rw [e] at h2 h4 h5
        exact .inl ⟨x, by omega, by omega, h4, h5⟩
      · exact .inr ⟨a, x, by omega, h2, by omega, h4, h5⟩
theorem ovF1_length (l : List S83) (i : Int) : ∀ (d : Nat) (j : Int), (ovF1 l i d j).length ≤ d
  | 0, _ => Nat.le_refl _
  | d + 1, j => by
    have := ovF1_length l i d (j + 1)
    unfold ovF1
    split
    · simp only [List.length_cons]
      omega
    · omega
theorem ovF0_length (l : List S83) : ∀ (d : Nat) (i : Int), (ovF0 l d i).length ≤ d * d
  | 0, _ => Nat.le_refl _
  | d + 1, i => by
    have h1 := ovF0_length l d (i + 1)
    have h2 := ovF1_length l i d (i + 1)
    unfold ovF0
    rw [List.length_append]
    have : (d + 1) * (d + 1) = d * d + 2 * d + 1 := by rw [Nat.add_mul, Nat.mul_add]; omega
    omega
theorem spec_over_l1 {l : List S83} (h : PSite l) {i : Int} (i0 : 0 ≤ i) (i1 : i < l.length) : ∀ (d : Nat) (j : Int) (out : List (List Int)), i < j → j + d = l.length → out.length + d ≤ 1000 → ∀ r, Ev (fun k => spec_OverlappingAreas.l0 k l (out ++ ovF1 l i d j) (i + 1)) r → Ev (fun k => spec_OverlappingAreas.l1 k l out i j) r
  | 0, j, out, hij, hd, ho, r, hr => by
    have hl := h.1
    refine Ev_shift ?_
    simp only [spec_OverlappingAreas.l1, if_neg (show ¬ j < (l.length : Int) by omega), w64 (n := i + 1) (by omega)]
    simpa [ovF1] using hr
  | d + 1, j, out, hij, hd, ho, r, hr => by
    have hl := h.1
    have ai := area_at h i0 i1
    have aj := area_at h (show 0 ≤ j by omega) (show j < l.length by omega)
    unfold PArea at ai aj
    refine Ev_shift ?_
    simp only [spec_OverlappingAreas.l1, if_pos (show j < (l.length : Int) by omega), if_pos i0, if_pos i1, if_pos (show 0 ≤ j by omega), w64 (n := (rd_T83 l j).f1 + (rd_T83 l j).f3) (by omega), w64 (n := (rd_T83 l i).f1 + (rd_T83 l i).f3) (by omega), w64 (n := (rd_T83 l j).f2 + (rd_T83 l j).f4) (by omega), w64 (n := (rd_T83 l i).f2 + (rd_T83 l i).f4) (by omega), w64 (n := j + 1) (by omega)]
    unfold ovF1 at hr
    by_cases c : ovP l i j
    · rw [if_pos c] at hr
      have c' := c
      unfold ovP at c'
      simp only [if_pos c'.1, if_pos c'.2.1, if_pos c'.2.2.1, if_pos c'.2.2.2, if_pos (show out.length < 5864062014805 by omega)]
      refine spec_over_l1 h i0 i1 d (j + 1) (out ++ [[i, j]]) (by omega) (by omega) (by simp; omega) r ?_
      simpa using hr
    · rw [if_neg c] at hr
      have next := spec_over_l1 h i0 i1 d (j + 1) out (by omega) (by omega) (by omega) r hr
      by_cases c1 : (rd_T83 l i).f1 ≤ (rd_T83 l j).f1 + (rd_T83 l j).f3
      · by_cases c2 : (rd_T83 l j).f1 ≤ (rd_T83 l i).f1 + (rd_T83 l i).f3
        · by_cases c3 : (rd_T83 l i).f2 ≤ (rd_T83 l j).f2 + (rd_T83 l j).f4
          · simp only [if_pos c1, if_pos c2, if_pos c3, if_neg (fun c4 => c ⟨c1, c2, c3, c4⟩)]
            exact next
          · simp only [if_pos c1, if_pos c2, if_neg c3]
            exact next
        · simp only [if_pos c1, if_neg c2]
          exact next
      · simp only [if_neg c1]
        exact next
theorem spec_over_l0 {l : List S83} (h : PSite l) : ∀ (d : Nat) (i : Int) (out : List (List Int)), 0 ≤ i → i + d = l.length → out.length + 10 * d ≤ 1000 → Ev (fun k => spec_OverlappingAreas.l0 k l out i) (out ++ ovF0 l d i, 0)
  | 0, i, out, h0, hd, ho => by
    refine Ev_shift ?_
    simp only [spec_OverlappingAreas.l0, if_neg (show ¬ i < (l.length : Int) by omega), ovF0, List.append_nil]
    exact Ev.now _
  | d + 1, i, out, h0, hd, ho => by
    have hl := h.1
    refine Ev_shift ?_
    simp only [spec_OverlappingAreas.l0, if_pos (show i < (l.length : Int) by omega), w64 (n := i + 1) (by omega)]
    have h1 := ovF1_length l i d (i + 1)
    refine spec_over_l1 h h0 (by omega) d (i + 1) out (by omega) (by omega) (by omega) _ ?_
    have := spec_over_l0 h d (i + 1) (out ++ ovF1 l i d (i + 1)) (by omega) (by omega) (by simp; omega)
    simpa only [ovF0, List.append_assoc] using this
theorem impl_over_l1 {l : List S83} (h : PSite l) {i : Int} (i0 : 0 ≤ i) (i1 : i < l.length) : ∀ (d : Nat) (j : Int) (out : List (List Int)), i < j → j + d = l.length → out.length + d ≤ 1000 → ∀ r, Ev (fun k => impl_OverlappingAreas.l0 k l (out ++ ovF1 l i d j) l l.length (i + 1)) r → Ev (fun k => impl_OverlappingAreas.l1 k l out i j l l.length i (rd_T83 l i).f0 (rd_T83 l i).f1 (rd_T83 l i).f2 (rd_T83 l i).f3 (rd_T83 l i).f4) r
  | 0, j, out, hij, hd, ho, r, hr => by
    have hl := h.1
    refine Ev_shift ?_
    simp only [impl_OverlappingAreas.l1, if_neg (show ¬ j < (l.length : Int) by omega), w64 (n := i + 1) (by omega)]
    simpa [ovF1] using hr
  | d + 1, j, out, hij, hd, ho, r, hr => by
    have hl := h.1
    have ai := area_at h i0 i1
    have aj := area_at h (show 0 ≤ j by omega) (show j < l.length by omega)
    unfold PArea at ai aj
    refine Ev_shift ?_
    simp only [impl_OverlappingAreas.l1, if_pos (show j < (l.length : Int) by omega), if_pos (show 0 ≤ j by omega), w64 (n := (rd_T83 l j).f1 + (rd_T83 l j).f3) (by omega), w64 (n := (rd_T83 l i).f1 + (rd_T83 l i).f3) (by omega), w64 (n := (rd_T83 l j).f2 + (rd_T83 l j).f4) (by omega), w64 (n := (rd_T83 l i).f2 + (rd_T83 l i).f4) (by omega), w64 (n := j + 1) (by omega)]
    unfold ovF1 at hr
    by_cases c : ovP l i j
    · rw [if_pos c] at hr
      have c' := c
      unfold ovP at c'
      simp only [if_pos c'.1, if_pos c'.2.1, if_pos c'.2.2.1, if_pos c'.2.2.2, if_pos (show out.length < 5864062014805 by omega)]
      refine impl_over_l1 h i0 i1 d (j + 1) (out ++ [[i, j]]) (by omega) (by omega) (by simp; omega) r ?_
      simpa using hr
    · rw [if_neg c] at hr
      have next := impl_over_l1 h i0 i1 d (j + 1) out (by omega) (by omega) (by omega) r hr
      by_cases c1 : (rd_T83 l i).f1 ≤ (rd_T83 l j).f1 + (rd_T83 l j).f3
      · by_cases c2 : (rd_T83 l j).f1 ≤ (rd_T83 l i).f1 + (rd_T83 l i).f3
        · by_cases c3 : (rd_T83 l i).f2 ≤ (rd_T83 l j).f2 + (rd_T83 l j).f4
          · simp only [if_pos c1, if_pos c2, if_pos c3, if_neg (fun c4 => c ⟨c1, c2, c3, c4⟩)]
            exact next
          · simp only [if_pos c1, if_pos c2, if_neg c3]
            exact next
        · simp only [if_pos c1, if_neg c2]
          exact next
      · simp only [if_neg c1]
        exact next
theorem impl_over_l0 {l : List S83} (h : PSite l) : ∀ (d : Nat) (i : Int) (out : List (List Int)), 0 ≤ i → i + d = l.length → out.length + 10 * d ≤ 1000 → Ev (fun k => impl_OverlappingAreas.l0 k l out l l.length i) (out ++ ovF0 l d i, 0)
  | 0, i, out, h0, hd, ho => by
    refine Ev_shift ?_
    simp only [impl_OverlappingAreas.l0, if_neg (show ¬ i < (l.length : Int) by omega), ovF0, List.append_nil]
    exact Ev.now _
  | d + 1, i, out, h0, hd, ho => by
    have hl := h.1
    refine Ev_shift ?_
    simp only [impl_OverlappingAreas.l0, if_pos (show i < (l.length : Int) by omega), if_pos h0, w64 (n := i + 1) (by omega)]
    have h1 := ovF1_length l i d (i + 1)
    refine impl_over_l1 h h0 (by omega) d (i + 1) out (by omega) (by omega) (by omega) _ ?_
    have := impl_over_l0 h d (i + 1) (out ++ ovF1 l i d (i + 1)) (by omega) (by omega) (by simp; omega)
    simpa only [ovF0, List.append_assoc] using this
theorem over_val (l : List S83) (hl : l.length ≤ 1000000) : ∃ q : List (List Int) × Int, Ev (fun k => spec_OverlappingAreas.f k l) q ∧ Ev (fun k => impl_OverlappingAreas.f k l) q ∧ q.1.length ≤ 100 ∧ (∀ x ∈ q.1, x.length = 2) ∧ (q.2 = 0 → PSite l ∧ q.1 = ovF0 l l.length 0) := by
  have hs := spec_IsSite_ev l (by omega)
  have hi := impl_IsSite_ev l (by omega)
  by_cases h : PSite l
  · have hlen := ovF0_length l l.length 0
    have h10 := h.1
    have hm := Nat.mul_le_mul h10 h10
    refine ⟨(ovF0 l l.length 0, 0), ?_, ?_, by show List.length (ovF0 _ _ _) ≤ _; omega, fun x hx => ?_, fun _ => ⟨h, rfl⟩⟩
    · unfold spec_OverlappingAreas.f
      refine Ev.bind hs ?_
      simp only [decide_eq_true h, if_true]
      have := spec_over_l0 h l.length 0 [] (by omega) (by omega) (by simp; omega)
      simpa using this
    · unfold impl_OverlappingAreas.f
      refine Ev.bind hi ?_
      simp only [decide_eq_true h, if_true]
      have := impl_over_l0 h l.length 0 [] (by omega) (by omega) (by simp; omega)
      simpa using this
    · obtain ⟨a, b, _, _, _, _, e⟩ := (ovF0_mem l l.length 0 x).1 hx
      rw [e]
      rfl
  · refine ⟨([], 1), ?_, ?_, by simp, by simp, fun e => absurd e (by decide)⟩
    · unfold spec_OverlappingAreas.f
      refine Ev.bind hs ?_
      simp only [decide_eq_false h, Bool.false_eq_true, if_false]
      exact Ev.now _
    · unfold impl_OverlappingAreas.f
      refine Ev.bind hi ?_
      simp only [decide_eq_false h, Bool.false_eq_true, if_false]
      exact Ev.now _
theorem hasRow_l0 (l : List (List Int)) (hn : l.length ≤ 1000000) (hl : ∀ x ∈ l, x.length = 2) (a b : Int) : ∀ (s : List (List Int)) (i : Int), 0 ≤ i → l.drop i.toNat = s → Ev (fun k => laws_hasRow.l0 k l a b i) (decide ([a, b] ∈ s))
  | [], i, h0, h => by
    refine Ev_shift ?_
    simp only [laws_hasRow.l0, if_neg (drop_nil h0 h)]
    exact Ev_some (by simp)
  | x :: s, i, h0, h => by
    refine Ev_shift ?_
    obtain ⟨h1, h2, h3⟩ := drop_cons ([] : List Int) h0 h
    have h2' : rd_L3 l i = x := h2
    have hx := hl x (List.mem_of_mem_drop (i := i.toNat) (by rw [h]; simp))
    obtain ⟨p, q, rfl⟩ : ∃ p q, x = [p, q] := by
      match x, hx with
      | [p, q], _ => exact ⟨p, q, rfl⟩
    have r0 : rd [p, q] 0 = p := rfl
    have r1 : rd [p, q] 1 = q := rfl
    simp only [laws_hasRow.l0, if_pos h1, if_pos h0, h2', if_pos (show (([p, q] : List Int).length : Int) = 2 from rfl), if_pos (show 0 < (([p, q] : List Int).length : Int) by simp), if_pos (show 1 < (([p, q] : List Int).length : Int) by simp), r0, r1, w64 (n := i + 1) (by omega)]
    have next := hasRow_l0 l hn hl a b s (i + 1) (by omega) h3
    by_cases e1 : p = a
    · by_cases e2 : q = b
      · simp only [if_pos e1, if_pos e2]
        exact Ev_some (by simp [e1, e2])
      · simp only [if_pos e1, if_neg e2]
        refine Ev_eq next ?_
        refine decide_eq_decide.2 ⟨fun g => by simp [g], fun g => ?_⟩
        rcases List.mem_cons.1 g with g | g
        · injection g with _ g
          injection g with g
          exact absurd g.symm e2
        · exact g
    · simp only [if_neg e1]
      refine Ev_eq next ?_
      refine decide_eq_decide.2 ⟨fun g => by simp [g], fun g => ?_⟩
      rcases List.mem_cons.1 g with g | g
      · injection g with g
        exact absurd g.symm e1
      · exact g
theorem hasRow_dec (l : List (List Int)) (hn : l.length ≤ 1000000) (hl : ∀ x ∈ l, x.length = 2) (a b : Int) : Ev (fun k => laws_hasRow.f k l a b) (decide ([a, b] ∈ l)) := by
  unfold laws_hasRow.f
  exact hasRow_l0 l hn hl a b l 0 (by omega) rfl
/-- Sums over a range. -/
def sumT (p : Int → Int) : Nat → Int → Int
  | 0, _ => 0
  | d + 1, i => p i + sumT p d (i + 1)
theorem sumT_snoc (p : Int → Int) : ∀ (d : Nat) (i : Int), sumT p (d + 1) i = sumT p d i + p (i + d)
  | 0, i => by simp [sumT]
  | d + 1, i => by
    have ih := sumT_snoc p d (i + 1)
    show p i + sumT p (d + 1) (i + 1) = (p i + sumT p d (i + 1)) + p (i + ((d + 1 : Nat) : Int))
    rw [ih, show i + ((d + 1 : Nat) : Int) = i + 1 + (d : Int) by omega]
    omega
theorem sumT_congr {p q : Int → Int} : ∀ (d : Nat) (i : Int), (∀ x, i ≤ x → x < i + d → p x = q x) → sumT p d i = sumT q d i
  | 0, _, _ => rfl
  | d + 1, i, h => by
    show p i + sumT p d (i + 1) = q i + sumT q d (i + 1)
    rw [h i (by omega) (by omega), sumT_congr d (i + 1) (fun x h0 h1 => h x (by omega) (by omega))]
theorem sumT_add (p q : Int → Int) : ∀ (d : Nat) (i : Int), sumT (fun x => p x + q x) d i = sumT p d i + sumT q d i
  | 0, _ => rfl
  | d + 1, i => by
    show p i + q i + sumT (fun x => p x + q x) d (i + 1) = (p i + sumT p d (i + 1)) + (q i + sumT q d (i + 1))
    rw [sumT_add p q d (i + 1)]
    omega
theorem sumT_bd {p : Int → Int} (h : ∀ x, 0 ≤ p x ∧ p x ≤ 1) : ∀ (d : Nat) (i : Int), 0 ≤ sumT p d i ∧ sumT p d i ≤ d
  | 0, _ => by simp [sumT]
  | d + 1, i => by
    have := sumT_bd h d (i + 1)
    have := h i
    show 0 ≤ p i + sumT p d (i + 1) ∧ p i + sumT p d (i + 1) ≤ _
    omega
theorem sumT_turn (f : Int → Int → Int) : ∀ n : Nat, sumT (fun i => sumT (f i) (n - 1 - i.toNat) (i + 1)) n 0 = sumT (fun i => sumT (fun k => f k i) i.toNat 0) n 0
  | 0 => rfl
  | n + 1 => by
    have ih := sumT_turn f n
    rw [sumT_snoc, sumT_snoc, Int.zero_add, ← ih]
    have e : sumT (fun i => sumT (f i) (n + 1 - 1 - i.toNat) (i + 1)) n 0 = sumT (fun i => sumT (f i) (n - 1 - i.toNat) (i + 1) + f i n) n 0 := by
      refine sumT_congr n 0 (fun x x0 x1 => ?_)
      show sumT (f x) (n + 1 - 1 - x.toNat) (x + 1) = sumT (f x) (n - 1 - x.toNat) (x + 1) + f x n
      rw [show n + 1 - 1 - x.toNat = (n - 1 - x.toNat) + 1 by omega, sumT_snoc, show x + 1 + ((n - 1 - x.toNat : Nat) : Int) = n by omega]
    rw [e, sumT_add]
    have z : sumT (f (n : Int)) (n + 1 - 1 - ((n : Int)).toNat) ((n : Int) + 1) = 0 := by
      rw [show n + 1 - 1 - ((n : Int)).toNat = 0 by omega]
      rfl
    rw [z, Int.toNat_natCast]
    omega
def ovI (l : List S83) (i j : Int) : Int := if ovP l i j then 1 else 0
theorem ovF1_count (l : List S83) (i : Int) : ∀ (d : Nat) (j : Int), ((ovF1 l i d j).length : Int) = sumT (ovI l i) d j
  | 0, _ => rfl
  | d + 1, j => by
    have := ovF1_count l i d (j + 1)
    unfold ovF1
    show _ = ovI l i j + sumT (ovI l i) d (j + 1)
    unfold ovI at this ⊢
    by_cases c : ovP l i j
    · rw [if_pos c, if_pos c, List.length_cons]
      omega
    · rw [if_neg c, if_neg c]
      omega
theorem ovF0_count (l : List S83) (n : Nat) : ∀ (d : Nat) (i : Int), 0 ≤ i → i + d = n → ((ovF0 l d i).length : Int) = sumT (fun i => sumT (ovI l i) (n - 1 - i.toNat) (i + 1)) d i
  | 0, _, _, _ => rfl
  | d + 1, i, h0, hd => by
    unfold ovF0
    show _ = sumT (ovI l i) (n - 1 - i.toNat) (i + 1) + sumT (fun i => sumT (ovI l i) (n - 1 - i.toNat) (i + 1)) d (i + 1)
    rw [List.length_append, show n - 1 - i.toNat = d by omega, ← ovF1_count, ← ovF0_count l n d (i + 1) (by omega) (by omega)]
    omega
theorem drawWithin_ev (c : List Int) (hc : c.length ≤ 4096) (hb : ∀ x ∈ c, 0 ≤ x ∧ x ≤ 255) : ∃ (l : List S83) (x y p : Int), Ev (fun k => spec_DrawAreasWithin.f k c) (l, x, y, p) ∧ l.length ≤ 30 := by
  obtain ⟨s, e0, h0⟩ := from_ev c hc hb
  obtain ⟨l, a1, s1, e1, h1, hl⟩ := site15_ev h0
  obtain ⟨x, y, a2, s2, e2, h2⟩ := at15_some h1
  obtain ⟨v, a3, s3, e3, h3, _, _⟩ := next_some h2 1500 (by omega)
  obtain ⟨u, a4, s4, e4, h4, _, _⟩ := next_some h3 400 (by omega)
  obtain ⟨p, a5, s5, e5, h5, _⟩ := pick_some h4 [v, u, 0, 100000, 100001, (-1)] (by simp) (by simp)
  refine ⟨l, x, y, p, ?_, hl⟩
  unfold spec_DrawAreasWithin.f
  refine Ev.bind e0 (Ev.bind e1 ?_)
  simp only [e2, e3, e4, e5, Option.bind_some]
  exact Ev.now _
theorem drawOver_ev (c : List Int) (hc : c.length ≤ 4096) (hb : ∀ x ∈ c, 0 ≤ x ∧ x ≤ 255) : ∃ l : List S83, Ev (fun k => spec_DrawOverlappingAreas.f k c) l ∧ l.length ≤ 30 := by
  obtain ⟨s, e0, h0⟩ := from_ev c hc hb
  obtain ⟨l, a1, s1, e1, h1, hl⟩ := site15_ev h0
  refine ⟨l, ?_, hl⟩
  unfold spec_DrawOverlappingAreas.f
  exact Ev.bind e0 (Ev.bind e1 (Ev.now _))
theorem areas_l2 {z : List S83} (h : PSite z) (o : List (List Int)) (ho : o = ovF0 z z.length 0) (ol : o.length ≤ 100) (o2 : ∀ x ∈ o, x.length = 2) {i : Int} (i0 : 0 ≤ i) (i1 : i < z.length) : ∀ (d : Nat) (j n : Int), 0 ≤ j → j + d = i → 0 ≤ n → n + d ≤ 1000 → ∀ r, Ev (fun k => laws_FnAreas.l1 k z o 0 (n + sumT (fun k => ovI z k i) d j) (i + 1)) r → Ev (fun k => laws_FnAreas.l2 k z o 0 n i j) r
  | 0, j, n, j0, hd, n0, n1, r, hr => by
    have hl := h.1
    refine Ev_shift ?_
    simp only [laws_FnAreas.l2, if_neg (show ¬ j < i by omega), w64 (n := i + 1) (by omega)]
    simpa [sumT] using hr
  | d + 1, j, n, j0, hd, n0, n1, r, hr => by
    have hl := h.1
    have ai := area_at h i0 i1
    have aj := area_at h j0 (show j < z.length by omega)
    unfold PArea at ai aj
    have hmem : decide ([j, i] ∈ o) = decide (ovP z j i) := by
      rw [ho]
      refine decide_eq_decide.2 ⟨fun g => ?_, fun g => (ovF0_mem z z.length 0 _).2 ⟨j, i, j0, by omega, by omega, g, rfl⟩⟩
      obtain ⟨a, x, _, _, _, g2, e⟩ := (ovF0_mem z z.length 0 _).1 g
      injection e with e1 e
      injection e with e2 e
      rw [e1, e2]
      exact g2
    have j6 : ∀ b : Bool, b = decide (ovP z j i) → Ev (fun k => laws_FnAreas.j6 k z o 0 n i j b) r := fun b hb => by
      refine Ev_shift ?_
      simp only [laws_FnAreas.j6]
      refine Ev.bind (hasRow_dec o (by omega) o2 j i) ?_
      rw [hmem, hb]
      simp only [bne_self_eq_false, Bool.false_eq_true, if_false, w64 (n := j + 1) (by omega), w64 (n := n + 1) (by omega)]
      have e : sumT (fun k => ovI z k i) (d + 1) j = ovI z j i + sumT (fun k => ovI z k i) d (j + 1) := rfl
      rw [e] at hr
      unfold ovI at hr
      by_cases c : ovP z j i
      · rw [if_pos c] at hr
        simp only [decide_eq_true c, if_true]
        refine areas_l2 h o ho ol o2 i0 i1 d (j + 1) (n + 1) (by omega) (by omega) (by omega) (by omega) r ?_
        rw [Int.add_assoc]
        exact hr
      · rw [if_neg c] at hr
        simp only [decide_eq_false c, Bool.false_eq_true, if_false]
        refine areas_l2 h o ho ol o2 i0 i1 d (j + 1) n (by omega) (by omega) n0 (by omega) r ?_
        rw [Int.zero_add] at hr
        exact hr
    refine Ev_shift ?_
    simp only [laws_FnAreas.l2, if_pos (show j < i by omega), if_pos i0, if_pos i1, if_pos j0, if_pos (show j < (z.length : Int) by omega), w64 (n := (rd_T83 z j).f1 + (rd_T83 z j).f3) (by omega), w64 (n := (rd_T83 z i).f1 + (rd_T83 z i).f3) (by omega), w64 (n := (rd_T83 z j).f2 + (rd_T83 z j).f4) (by omega), w64 (n := (rd_T83 z i).f2 + (rd_T83 z i).f4) (by omega)]
    by_cases c1 : (rd_T83 z i).f1 ≤ (rd_T83 z j).f1 + (rd_T83 z j).f3
    · by_cases c2 : (rd_T83 z j).f1 ≤ (rd_T83 z i).f1 + (rd_T83 z i).f3
      · by_cases c3 : (rd_T83 z i).f2 ≤ (rd_T83 z j).f2 + (rd_T83 z j).f4
        · simp only [if_pos c1, if_pos c2, if_pos c3]
          refine j6 _ (decide_eq_decide.2 ?_)
          unfold ovP
          exact ⟨fun g => ⟨c2, c1, g, c3⟩, fun g => g.2.2.1⟩
        · simp only [if_pos c1, if_pos c2, if_neg c3]
          exact j6 _ (decide_eq_false (fun g => c3 g.2.2.2)).symm
      · simp only [if_pos c1, if_neg c2]
        exact j6 _ (decide_eq_false (fun g => c2 g.1)).symm
    · simp only [if_neg c1]
      exact j6 _ (decide_eq_false (fun g => c1 g.2.1)).symm
theorem areas_l1 {z : List S83} (h : PSite z) (o : List (List Int)) (ho : o = ovF0 z z.length 0) (ol : o.length ≤ 100) (o2 : ∀ x ∈ o, x.length = 2) : ∀ (d : Nat) (i n : Int), 0 ≤ i → i + d = z.length → 0 ≤ n → n + 10 * d ≤ 500 → n + sumT (fun i => sumT (fun k => ovI z k i) i.toNat 0) d i = (o.length : Int) → Ev (fun k => laws_FnAreas.l1 k z o 0 n i) true
  | 0, i, n, i0, hd, n0, n1, hs => by
    refine Ev_shift ?_
    simp only [laws_FnAreas.l1, if_true, decide_eq_false (show ¬ i < (z.length : Int) by omega)]
    refine Ev_shift ?_
    simp only [laws_FnAreas.j4, Bool.false_eq_true, if_false, if_true]
    have e : n = (o.length : Int) := by simpa [sumT] using hs
    exact Ev_some (by rw [e]; simp)
  | d + 1, i, n, i0, hd, n0, n1, hs => by
    have hl := h.1
    have hb := sumT_bd (p := fun k => ovI z k i) (fun x => by show 0 ≤ ovI z x i ∧ ovI z x i ≤ 1; unfold ovI; split <;> omega) i.toNat 0
    have next := areas_l1 h o ho ol o2 d (i + 1) (n + sumT (fun k => ovI z k i) i.toNat 0) (by omega) (by omega) (by omega) (by omega) (by
      have e : sumT (fun i => sumT (fun k => ovI z k i) i.toNat 0) (d + 1) i = sumT (fun k => ovI z k i) i.toNat 0 + sumT (fun i => sumT (fun k => ovI z k i) i.toNat 0) d (i + 1) := rfl
      rw [e] at hs
      omega)
    refine Ev_shift ?_
    simp only [laws_FnAreas.l1, if_true, decide_eq_true (show i < (z.length : Int) by omega)]
    refine Ev_shift ?_
    simp only [laws_FnAreas.j4, if_true]
    exact areas_l2 h o ho ol o2 i0 (by omega) i.toNat 0 n (by omega) (by omega) n0 (by omega) true next
theorem areas_last (z : List S83) (o : List (List Int)) {c : Int} (hc : ¬ c = 0) : Ev (fun k => laws_FnAreas.l1 k z o c 0 0) true := by
  refine Ev_shift ?_
  simp only [laws_FnAreas.l1, if_neg hc]
  refine Ev_shift ?_
  simp only [laws_FnAreas.j4, Bool.false_eq_true, if_false, if_neg hc]
  exact Ev.now _
theorem areas_l0 {l : List S83} (h : PSite l) {x y p : Int} (hp : PPlace x y) (hq : 0 ≤ p ∧ p ≤ 100000) (z : List S83) (o : List (List Int)) (one : Int) (hr : Ev (fun k => laws_FnAreas.l1 k z o one 0 0) true) : ∀ (d : Nat) (i : Int), 0 ≤ i → i + d = l.length → Ev (fun k => laws_FnAreas.l0 k l x y p (idxF (fun i => decide (sqAt l x y i ≤ p * p)) l.length 0) 0 z o one i) true
  | 0, i, h0, hd => by
    refine Ev_shift ?_
    simp only [laws_FnAreas.l0, if_true, decide_eq_false (show ¬ i < (l.length : Int) by omega)]
    refine Ev_shift ?_
    simp only [laws_FnAreas.j2, Bool.false_eq_true, if_false]
    exact hr
  | d + 1, i, h0, hd => by
    have hl := h.1
    have hi : i < (l.length : Int) := by omega
    have ha := area_at h h0 hi
    obtain ⟨s, c, eq, hc⟩ := sqToi_ev (rd_T83 l i).f0 (rd_T83 l i).f1 (rd_T83 l i).f2 (rd_T83 l i).f3 (rd_T83 l i).f4 x y
    obtain ⟨e1, e2⟩ := hc ha hp
    have hs : s = sqAt l x y i := e1
    have hsq := sq_le hq
    have hlen := idxF_length (fun i => decide (sqAt l x y i ≤ p * p)) l.length 0
    have next := areas_l0 h hp hq z o one hr d (i + 1) (by omega) (by omega)
    have hmem : decide (i ∈ idxF (fun i => decide (sqAt l x y i ≤ p * p)) l.length 0) = decide (s ≤ p * p) := decide_eq_decide.2 ⟨fun g => by
      have := of_decide_eq_true ((idxF_mem _ _ _ _).1 g).2.2
      omega, fun g => (idxF_mem _ _ _ _).2 ⟨h0, by omega, decide_eq_true (by omega)⟩⟩
    refine Ev_shift ?_
    simp only [laws_FnAreas.l0, if_true, decide_eq_true hi]
    refine Ev_shift ?_
    simp only [laws_FnAreas.j2, if_true, if_pos h0, if_pos hi, eq, Option.bind_some, if_pos e2, w64 (n := p * p) (by omega), w64 (n := i + 1) (by omega)]
    refine Ev.bind (hasInt_dec _ (by omega) i) ?_
    rw [hmem]
    simp only [bne_self_eq_false, Bool.false_eq_true, if_false]
    exact next
theorem FnAreas : laws_FnAreas.Pure := by
  intro c _ _ hw
  have hb := u8_rng hw
  by_cases big : (c.length : Int) > 4096
  · refine ⟨0, ?_⟩
    unfold laws_FnAreas.f laws_big.f
    simp only [Option.bind_some, decide_eq_true big, if_true]
  · suffices hq : Ev (fun k => laws_FnAreas.f k c) true by
      obtain ⟨K, hK⟩ := hq
      exact ⟨K, hK K (Nat.le_refl _)⟩
    obtain ⟨l, x, y, p, ed, hl⟩ := drawWithin_ev c (by omega) hb
    obtain ⟨z, ez, hz⟩ := drawOver_ev c (by omega) hb
    obtain ⟨⟨a, bad⟩, aS, ai, al, av⟩ := within_val l x y p (by omega)
    obtain ⟨⟨o, one⟩, oS, oi, ol, o2, ov⟩ := over_val z (by omega)
    simp only at al av ol o2 ov
    unfold laws_FnAreas.f laws_big.f
    simp only [Option.bind_some, decide_eq_false big, Bool.false_eq_true, if_false]
    refine Ev.bind ed (Ev.bind ai (Ev.bind aS (Ev.bind ez (Ev.bind oi (Ev.bind oS ?_)))))
    simp only [if_true]
    refine Ev.bind (likeInts_self a (by omega)) ?_
    simp only [if_true]
    refine Ev.bind (likeRows_self o (by omega) (fun x hx => by rw [o2 x hx]; omega)) ?_
    simp only [Bool.not_true]
    refine Ev_shift ?_
    simp only [laws_FnAreas.j0, Bool.false_eq_true, if_false]
    have last : Ev (fun k => laws_FnAreas.l1 k z o one 0 0) true := by
      by_cases c0 : one = 0
      · obtain ⟨h, e⟩ := ov c0
        have h10 := h.1
        have hs : 0 + sumT (fun i => sumT (fun k => ovI z k i) i.toNat 0) z.length 0 = (o.length : Int) := by
          rw [e, ovF0_count z z.length z.length 0 (by omega) (by omega), Int.zero_add, sumT_turn (ovI z)]
        rw [c0]
        exact areas_l1 h o e ol o2 z.length 0 0 (by omega) (by omega) (by omega) (by omega) hs
      · exact areas_last z o c0
    by_cases c0 : bad = 0
    · obtain ⟨h, hp, hq, e⟩ := av c0
      rw [c0, e]
      exact areas_l0 h hp hq z o one last l.length 0 (by omega) (by omega)
    · refine Ev_shift ?_
      simp only [laws_FnAreas.l0, if_neg c0]
      refine Ev_shift ?_
      simp only [laws_FnAreas.j2, Bool.false_eq_true, if_false]
      exact last
end Go.Proofs.Ytedcdhnbceaaeaa.Pure
