/- The plain law of FnSites: what the printed functions compute, without Go and memory. No condition but the bounds that stand in it. -/
import Derived.Test.YtffnhobhpfnimaaPFnSitesx0
import Derived.Test.YtffnhobhpfnimaaQFnSitesa
import Derived.Test.YtffnhobhpfnimaaQFnSitesb
import Derived.Test.YtffnhobhpfnimaaQFnSitesc
import Derived.Test.YtffnhobhpfnimaaQFnSitesd
import Derived.Test.YtffnhobhpfnimaaQFnSitese
import Derived.Test.YtffnhobhpfnimaaQFnSitesf
import Derived.Test.YtffnhobhpfnimaaOpen
namespace Go.Proofs.Ytffnhobhpfnimaa.Pure
open Go.RowKit Go.Proofs.Ytffnhobhpfnimaa.PFnSites Go.Proofs.YtffnhobhpfnimaaW.PrintWords Go.Proofs.YtffnhobhpfnimaaW.PrintLast Go.Proofs.Ytffnhobhpfnimaa.Opening
set_option linter.unusedVariables false
set_option linter.unusedSimpArgs false
theorem w64 {n : Int} (h : -9223372036854775808 ≤ n ∧ n ≤ 9223372036854775807) : wrap64 n = n := by
  unfold wrap64
  omega
theorem dec_and {p q : Prop} [Decidable p] [Decidable q] : (if decide p = true then some (decide q) else some false) = some (decide (p ∧ q)) := by
  by_cases h : p <;> simp [h]
theorem l01In_eq (a b c : Int) : spec_l01In.f a b c = some (decide (b ≤ a ∧ a ≤ c)) := by
  unfold spec_l01In.f
  by_cases h : b ≤ a <;> simp [h]
theorem within_eq (a b c : Int) : impl_within.f a b c = some (decide (b ≤ a ∧ a ≤ c)) := by
  unfold impl_within.f
  by_cases h : b ≤ a <;> simp [h]
theorem drop_cons {α : Type} {l : List α} {i : Int} {a : α} {s : List α} (z : α) (h0 : 0 ≤ i) (h : l.drop i.toNat = a :: s) : i < l.length ∧ l.getD i.toNat z = a ∧ l.drop (i + 1).toNat = s := by
  have hlt : i.toNat < l.length := by
    rcases Nat.lt_or_ge i.toNat l.length with h1 | h1
    · exact h1
    · rw [List.drop_eq_nil_of_le h1] at h; cases h
  rw [List.drop_eq_getElem_cons hlt] at h
  injection h with h1 h2
  refine ⟨by omega, ?_, ?_⟩
  · rw [List.getD_eq_getElem?_getD, List.getElem?_eq_getElem hlt]; exact h1
  · rw [show (i + 1).toNat = i.toNat + 1 by omega]; exact h2
theorem drop_nil {α : Type} {l : List α} {i : Int} (h0 : 0 ≤ i) (h : l.drop i.toNat = []) : ¬ i < (l.length : Int) := by
  have := List.drop_eq_nil_iff.1 h
  omega
theorem Ev_shift {α : Type} {g : Nat → Option α} {r : α} (h : Ev (fun k => g (k + 1)) r) : Ev g r := Ev.step (fun _ => rfl) h
theorem Ev_eq {α : Type} {g : Nat → Option α} {r q : α} (h : Ev g r) (e : r = q) : Ev g q := e ▸ h
theorem Ev_some {α : Type} {r q : α} (e : r = q) : Ev (fun _ => some r) q := e ▸ Ev.now r
theorem rd_mem {l : List Int} {i : Int} (h0 : 0 ≤ i) (h1 : i < l.length) : rd l i ∈ l := by
  have hlt : i.toNat < l.length := by omega
  have e : rd l i = l[i.toNat] := by
    show l.getD i.toNat _ = _
    rw [List.getD_eq_getElem?_getD, List.getElem?_eq_getElem hlt]
    rfl
  rw [e]
  exact List.getElem_mem hlt
/-- A source of drawn numbers. -/
def Src (c : List Int) (a s : Int) : Prop := (0 ≤ a ∧ a ≤ c.length ∧ c.length ≤ 4096) ∧ (0 ≤ s ∧ s < 2147483647) ∧ ∀ x ∈ c, 0 ≤ x ∧ x ≤ 255
theorem next_some {c : List Int} {a s : Int} (h : Src c a s) (n : Int) (hn : n ≤ 1000000000000) : ∃ v a' s', spec_l01Next.f c a s n = some (v, a', s') ∧ Src c a' s' ∧ 0 ≤ v ∧ (v < n ∨ v = 0) := by
  have ha := h.1
  have hs := h.2.1
  unfold spec_l01Next.f
  by_cases c1 : n ≤ 1
  · rw [if_pos c1]
    exact ⟨0, a, s, rfl, h, by omega, .inr rfl⟩
  · rw [if_neg c1]
    have w1 : wrap64 (wrap64 (s * 48271) + 29) = s * 48271 + 29 := by rw [w64 (n := s * 48271) (by omega), w64 (by omega)]
    obtain ⟨e, he⟩ : ∃ e, Int.tmod (s * 48271 + 29) 2147483647 = e := ⟨_, rfl⟩
    have e0 : 0 ≤ e := he ▸ Int.tmod_nonneg _ (by omega)
    have e1 : e < 2147483647 := he ▸ Int.tmod_lt_of_pos _ (by omega)
    obtain ⟨q, hq⟩ : ∃ q, Int.tdiv e 31 = q := ⟨_, rfl⟩
    have q0 : 0 ≤ q ∧ q ≤ e := by
      rw [← hq, Int.tdiv_eq_ediv_of_nonneg e0]
      omega
    have src : ∀ a' : Int, 0 ≤ a' → a' ≤ (c.length : Int) → Src c a' e := fun a' h0 h1 => ⟨⟨h0, h1, ha.2.2⟩, ⟨e0, e1⟩, h.2.2⟩
    have md : ∀ x, 0 ≤ x → 0 ≤ Int.tmod x n ∧ Int.tmod x n < n := fun x hx => ⟨Int.tmod_nonneg _ hx, Int.tmod_lt_of_pos _ (by omega)⟩
    by_cases c2 : a < c.length
    · have hr := h.2.2 (rd c a) (rd_mem ha.1 c2)
      simp only [w1, he, hq, w64 (n := q) (by omega), if_pos c2, if_pos ha.1, w64 (n := a + 1) (by omega), w64 (n := a + 1 - 1) (by omega), show a + 1 - 1 = a by omega, w64 (n := a) (by omega), w64 (n := rd c a) (by omega), w64 (n := q + rd c a) (by omega), if_neg (show ¬ n = 0 by omega)]
      have m1 := md (rd c a) hr.1
      have m2 := md (q + rd c a) (by omega)
      by_cases c3 : n ≤ 256
      · by_cases c4 : Int.tmod (a + 1) 2 = 0
        · simp only [if_pos c3, if_pos c4]
          exact ⟨_, a + 1, e, rfl, src (a + 1) (by omega) (by omega), m1.1, .inl m1.2⟩
        · simp only [if_pos c3, if_neg c4]
          exact ⟨_, a + 1, e, rfl, src (a + 1) (by omega) (by omega), m2.1, .inl m2.2⟩
      · simp only [if_neg c3]
        exact ⟨_, a + 1, e, rfl, src (a + 1) (by omega) (by omega), m2.1, .inl m2.2⟩
    · have m3 := md q q0.1
      simp only [w1, he, hq, w64 (n := q) (by omega), if_neg c2, if_neg (show ¬ n = 0 by omega)]
      exact ⟨_, a, e, rfl, src a ha.1 ha.2.1, m3.1, .inl m3.2⟩
theorem pick_some {c : List Int} {a s : Int} (h : Src c a s) (l : List Int) (h1 : 1 ≤ l.length) (h2 : l.length ≤ 1000) : ∃ v a' s', spec_l01Pick.f c a s l = some (v, a', s') ∧ Src c a' s' ∧ v ∈ l := by
  obtain ⟨v, a', s', e, hs, h0, hv⟩ := next_some h l.length (by omega)
  refine ⟨rd l v, a', s', ?_, hs, rd_mem h0 (by omega)⟩
  unfold spec_l01Pick.f
  rw [e]
  simp only [Option.bind_some]
  rw [if_pos h0, if_pos (by omega)]
theorem from_l0 (c : List Int) (hc : c.length ≤ 4096) (hb : ∀ x ∈ c, 0 ≤ x ∧ x ≤ 255) : ∀ (d : Nat) (i s : Int), 0 ≤ i → i + d = c.length → 0 ≤ s → s < 2147483647 → ∃ s', Ev (fun k => spec_l01From.l0 k c i c 0 s) (c, 0, s') ∧ Src c 0 s'
  | 0, i, s, h0, hd, s0, s1 => by
    refine ⟨s, Ev_shift ?_, ⟨by omega, by omega, hc⟩, ⟨s0, s1⟩, hb⟩
    simp only [spec_l01From.l0, if_neg (show ¬ i < (c.length : Int) by omega)]
    exact Ev.now _
  | d + 1, i, s, h0, hd, s0, s1 => by
    have hi : i < (c.length : Int) := by omega
    have hr := hb (rd c i) (rd_mem h0 hi)
    by_cases c2 : i < 64
    · obtain ⟨s', e, hs⟩ := from_l0 c hc hb d (i + 1) (Int.tmod (s * 83 + rd c i) 2147483647) (by omega) (by omega) (Int.tmod_nonneg _ (by omega)) (Int.tmod_lt_of_pos _ (by omega))
      refine ⟨s', Ev_shift ?_, hs⟩
      simp only [spec_l01From.l0, if_pos hi, if_pos c2, if_pos h0, w64 (n := i + 1) (by omega), w64 (n := s * 83) (by omega), w64 (n := rd c i) (by omega), w64 (n := s * 83 + rd c i) (by omega)]
      exact e
    · refine ⟨s, Ev_shift ?_, ⟨by omega, by omega, hc⟩, ⟨s0, s1⟩, hb⟩
      simp only [spec_l01From.l0, if_pos hi, if_neg c2]
      exact Ev.now _
theorem from_ev (c : List Int) (hc : c.length ≤ 4096) (hb : ∀ x ∈ c, 0 ≤ x ∧ x ≤ 255) : ∃ s, Ev (fun k => spec_l01From.f k c) (c, 0, s) ∧ Src c 0 s := by
  unfold spec_l01From.f
  exact from_l0 c hc hb c.length 0 61043 (by omega) (by omega) (by omega) (by omega)
theorem u8_rng {l : List Int} (h : ∀ x ∈ l, (Lit.int .u8 x).wf = true) : ∀ x ∈ l, 0 ≤ x ∧ x ≤ 255 := by
  intro x hx
  have := h x hx
  simp only [Lit.wf, Bool.and_eq_true, decide_eq_true_eq] at this
  have h1 : IntKind.min .u8 = 0 := by decide
  have h2 : IntKind.max .u8 = 255 := by decide
  rw [h1, h2] at this
  exact this
def PPlace (x y : Int) : Prop := 0 ≤ x ∧ x ≤ 100000 ∧ 0 ≤ y ∧ y ≤ 100000
instance (x y : Int) : Decidable (PPlace x y) := by unfold PPlace; infer_instance
def PArea (k x y w d : Int) : Prop := 0 ≤ k ∧ k ≤ 3 ∧ 0 ≤ x ∧ x ≤ 100000 ∧ 0 ≤ y ∧ y ≤ 100000 ∧ 1 ≤ w ∧ w ≤ 100000 - x ∧ 1 ≤ d ∧ d ≤ 100000 - y
instance (k x y w d : Int) : Decidable (PArea k x y w d) := by unfold PArea; infer_instance
theorem spec_place_eq (x y : Int) : spec_l15Place.f x y = some (decide (PPlace x y)) := by
  unfold spec_l15Place.f PPlace
  simp only [l01In_eq, Option.bind_some]
  rw [dec_and]
  congr 2
  exact propext ⟨fun h => by omega, fun h => by omega⟩
theorem impl_place_eq (x y : Int) : impl_isPlace.f x y = some (decide (PPlace x y)) := by
  unfold impl_isPlace.f PPlace
  simp only [within_eq, Option.bind_some]
  rw [dec_and]
  congr 2
  exact propext ⟨fun h => by omega, fun h => by omega⟩
theorem impl_isKind_eq (k : Int) : impl_isKind.f k = some (decide (0 ≤ k ∧ k ≤ 3)) := by
  unfold impl_isKind.f
  rw [within_eq]; rfl
theorem spec_IsArea_eq (k x y w d : Int) : spec_IsArea.f k x y w d = some (decide (PArea k x y w d)) := by
  unfold spec_IsArea.f
  simp only [l01In_eq, spec_place_eq, Option.bind_some]
  by_cases h1 : 0 ≤ k ∧ k ≤ 3
  · rw [if_pos (decide_eq_true h1)]
    by_cases h2 : PPlace x y
    · rw [if_pos (decide_eq_true h2)]
      unfold PPlace at h2
      rw [w64 (by omega), w64 (by omega), dec_and]
      congr 2
      unfold PArea
      exact propext ⟨fun h => by omega, fun h => by omega⟩
    · rw [if_neg (by simpa using h2), decide_eq_false (fun h => h2 (by unfold PArea at h; unfold PPlace; omega))]
  · rw [if_neg (by simpa using h1), decide_eq_false (fun h => h1 (by unfold PArea at h; omega))]
theorem impl_IsArea_eq (k x y w d : Int) : impl_IsArea.f k x y w d = some (decide (PArea k x y w d)) := by
  unfold impl_IsArea.f
  simp only [within_eq, impl_isKind_eq, impl_place_eq, Option.bind_some]
  by_cases h1 : 0 ≤ k ∧ k ≤ 3
  · rw [if_pos (decide_eq_true h1)]
    by_cases h2 : PPlace x y
    · rw [if_pos (decide_eq_true h2)]
      unfold PPlace at h2
      rw [w64 (by omega), w64 (by omega), dec_and]
      congr 2
      unfold PArea
      exact propext ⟨fun h => by omega, fun h => by omega⟩
    · rw [if_neg (by simpa using h2), decide_eq_false (fun h => h2 (by unfold PArea at h; unfold PPlace; omega))]
  · rw [if_neg (by simpa using h1), decide_eq_false (fun h => h1 (by unfold PArea at h; omega))]
def PSite (l : List S63) : Prop := l.length ≤ 10 ∧ ∀ a ∈ l, PArea a.f0 a.f1 a.f2 a.f3 a.f4
instance (l : List S63) : Decidable (PSite l) := by unfold PSite; infer_instance
theorem spec_IsSite_l0 (l : List S63) (hn : l.length ≤ 140737488351232) : ∀ (s : List S63) (i : Int) (k : Nat), 0 ≤ i → l.drop i.toNat = s → s.length < k → spec_IsSite.l0 k l i = some (decide (l.length ≤ 10 ∧ ∀ a ∈ s, PArea a.f0 a.f1 a.f2 a.f3 a.f4))
  | [], i, k, h0, h, hk => by
    obtain ⟨k, rfl⟩ : ∃ m, k = m + 1 := ⟨k - 1, by omega⟩
    simp only [spec_IsSite.l0]
    rw [if_neg (drop_nil h0 h)]
    congr 2
    simp
    omega
  | a :: s, i, k, h0, h, hk => by
    obtain ⟨k, rfl⟩ : ∃ m, k = m + 1 := ⟨k - 1, by simp at hk; omega⟩
    obtain ⟨h1, h2, h3⟩ := drop_cons z63 h0 h
    have h2' : rd_T63 l i = a := h2
    simp only [spec_IsSite.l0]
    rw [if_pos h1, if_pos h0, h2', spec_IsArea_eq, Option.bind_some]
    by_cases hp : PArea a.f0 a.f1 a.f2 a.f3 a.f4
    · rw [if_pos (decide_eq_true hp), w64 (by omega), spec_IsSite_l0 l hn s (i + 1) k (by omega) h3 (by simpa using hk)]
      congr 2
      simp [hp]
    · rw [if_neg (by simpa using hp)]
      congr 1
      simp [hp]
theorem spec_IsSite_f (l : List S63) (hn : l.length ≤ 140737488351232) (k : Nat) (hk : l.length < k) : spec_IsSite.f k l = some (decide (PSite l)) := by
  unfold spec_IsSite.f PSite
  exact spec_IsSite_l0 l hn l 0 k (by omega) rfl hk
theorem impl_IsSite_l0 (l : List S63) (hn : l.length ≤ 140737488351232) : ∀ (s : List S63) (i : Int) (k : Nat), 0 ≤ i → l.drop i.toNat = s → s.length < k → impl_IsSite.l0 k l l.length i = some (decide (∀ a ∈ s, PArea a.f0 a.f1 a.f2 a.f3 a.f4))
  | [], i, k, h0, h, hk => by
    obtain ⟨k, rfl⟩ : ∃ m, k = m + 1 := ⟨k - 1, by omega⟩
    simp only [impl_IsSite.l0]
    rw [if_neg (drop_nil h0 h)]
    simp
  | a :: s, i, k, h0, h, hk => by
    obtain ⟨k, rfl⟩ : ∃ m, k = m + 1 := ⟨k - 1, by simp at hk; omega⟩
    obtain ⟨h1, h2, h3⟩ := drop_cons z63 h0 h
    have h2' : rd_T63 l i = a := h2
    simp only [impl_IsSite.l0]
    rw [if_pos h1, if_pos h0, if_pos h1, h2', impl_IsArea_eq, Option.bind_some]
    by_cases hp : PArea a.f0 a.f1 a.f2 a.f3 a.f4
    · rw [if_pos (decide_eq_true hp), w64 (by omega), impl_IsSite_l0 l hn s (i + 1) k (by omega) h3 (by simpa using hk)]
      congr 2
      simp [hp]
    · rw [if_neg (by simpa using hp)]
      congr 1
      simp [hp]
theorem impl_IsSite_f (l : List S63) (hn : l.length ≤ 140737488351232) (k : Nat) (hk : l.length < k) : impl_IsSite.f k l = some (decide (PSite l)) := by
  unfold impl_IsSite.f
  rw [impl_IsSite_l0 l hn l 0 k (by omega) rfl hk]
  by_cases h : (l.length : Int) > 10
  · rw [if_pos h, decide_eq_false (p := PSite l) (fun hh => by have := hh.1; omega)]
  · rw [if_neg h]
    congr 1
    exact decide_eq_decide.2 ⟨fun hh => (⟨by omega, hh⟩ : PSite l), fun hh => hh.2⟩
/-- How far a coordinate is from a range. -/
def PAway (x a w : Int) : Int := max (max 0 (a - x)) (x - a - w)
def PSq (X Y W D x y : Int) : Int := PAway x X W * PAway x X W + PAway y Y D * PAway y Y D
theorem mx_eq (a b : Int) : mx a b = max a b := by
  unfold mx
  omega
theorem PAway_bd {x a w : Int} (h : 0 ≤ x ∧ x ≤ 100000) (ha : 0 ≤ a ∧ a ≤ 100000) (hw : 1 ≤ w ∧ w ≤ 100000 - a) : 0 ≤ PAway x a w ∧ PAway x a w ≤ 100000 := by
  unfold PAway
  omega
theorem sq_bd {d : Int} (h : 0 ≤ d ∧ d ≤ 100000) : 0 ≤ d * d ∧ d * d ≤ 10000000000 := by
  have h1 : d * d ≤ 100000 * d := Int.mul_le_mul_of_nonneg_right h.2 h.1
  have h2 : 0 ≤ d * d := Int.mul_nonneg h.1 h.1
  omega
theorem PSq_bd {X Y W D x y : Int} (hp : PPlace x y) (ha : PPlace X Y) (hw : 1 ≤ W ∧ W ≤ 100000 - X) (hd : 1 ≤ D ∧ D ≤ 100000 - Y) : 0 ≤ PSq X Y W D x y ∧ PSq X Y W D x y ≤ 20000000000 := by
  unfold PPlace at *
  have h1 := sq_bd (PAway_bd (x := x) (a := X) (w := W) (by omega) (by omega) hw)
  have h2 := sq_bd (PAway_bd (x := y) (a := Y) (w := D) (by omega) (by omega) hd)
  unfold PSq
  omega
theorem spec_away_eq {x a w : Int} (h : 0 ≤ x ∧ x ≤ 100000) (ha : 0 ≤ a ∧ a ≤ 100000) (hw : 1 ≤ w ∧ w ≤ 100000 - a) : spec_l15Away.f x a (wrap64 (a + w)) = some (PAway x a w) := by
  unfold spec_l15Away.f PAway
  rw [w64 (n := a + w) (by omega), w64 (n := a - x) (by omega), w64 (n := x - (a + w)) (by omega), mx_eq, mx_eq]
  congr 1
  omega
theorem spec_Square_eq {K X Y W D x y : Int} (hp : PPlace x y) (ha : PPlace X Y) (hw : 1 ≤ W ∧ W ≤ 100000 - X) (hd : 1 ≤ D ∧ D ≤ 100000 - Y) : spec_l15Square.f K X Y W D x y = some (PSq X Y W D x y) := by
  unfold PPlace at *
  unfold spec_l15Square.f PSq
  rw [spec_away_eq (by omega) (by omega) hw, Option.bind_some, spec_away_eq (by omega) (by omega) hd, Option.bind_some]
  have h1 := sq_bd (PAway_bd (x := x) (a := X) (w := W) (by omega) (by omega) hw)
  have h2 := sq_bd (PAway_bd (x := y) (a := Y) (w := D) (by omega) (by omega) hd)
  rw [w64 (n := PAway x X W * PAway x X W) (by omega), w64 (n := PAway y Y D * PAway y Y D) (by omega), w64 (by omega)]
theorem impl_square_eq {K X Y W D x y : Int} (hp : PPlace x y) (ha : PPlace X Y) (hw : 1 ≤ W ∧ W ≤ 100000 - X) (hd : 1 ≤ D ∧ D ≤ 100000 - Y) : impl_squareTo.f K X Y W D x y = some (PSq X Y W D x y) := by
  unfold PPlace at *
  unfold impl_squareTo.f
  rw [w64 (n := X - x) (by omega), w64 (n := x - X) (by omega), w64 (n := x - X - W) (by omega), w64 (n := Y - y) (by omega), w64 (n := y - Y) (by omega), w64 (n := y - Y - D) (by omega)]
  simp only [mx_eq]
  have h1 := sq_bd (PAway_bd (x := x) (a := X) (w := W) (by omega) (by omega) hw)
  have h2 := sq_bd (PAway_bd (x := y) (a := Y) (w := D) (by omega) (by omega) hd)
  show some (wrap64 (wrap64 (PAway x X W * PAway x X W) + wrap64 (PAway y Y D * PAway y Y D))) = some (PSq X Y W D x y)
  rw [w64 (n := PAway x X W * PAway x X W) (by omega), w64 (n := PAway y Y D * PAway y Y D) (by omega), w64 (by omega)]
  rfl
theorem spec_l15Code_f (l : List S63) (hn : l.length ≤ 140737488351232) (k : Nat) (hk : l.length < k) (kind x y : Int) : spec_l15Code.f k l kind x y = some (if PSite l then (if PPlace x y ∧ 0 ≤ kind ∧ kind ≤ 3 then 0 else 2) else 1) := by
  unfold spec_l15Code.f
  rw [spec_IsSite_f l hn k hk, Option.bind_some]
  by_cases h : PSite l
  · rw [if_pos (decide_eq_true h), if_pos h, spec_place_eq, Option.bind_some]
    by_cases h2 : PPlace x y
    · rw [if_pos (decide_eq_true h2), l01In_eq, Option.bind_some]
      by_cases h3 : 0 ≤ kind ∧ kind ≤ 3
      · rw [if_pos (decide_eq_true h3), if_pos ⟨h2, h3⟩]
      · rw [if_neg (by simpa using h3), if_neg (fun h => h3 h.2)]
    · rw [if_neg (by simpa using h2), if_neg (fun h => h2 h.1)]
  · rw [if_neg (by simpa using h), if_neg h]
theorem spec_IsSite_ev (l : List S63) (hn : l.length ≤ 140737488351232) : Ev (fun k => spec_IsSite.f k l) (decide (PSite l)) := ⟨l.length + 1, fun k hk => spec_IsSite_f l hn k (by omega)⟩
theorem impl_IsSite_ev (l : List S63) (hn : l.length ≤ 140737488351232) : Ev (fun k => impl_IsSite.f k l) (decide (PSite l)) := ⟨l.length + 1, fun k hk => impl_IsSite_f l hn k (by omega)⟩
theorem area_at {l : List S63} (h : PSite l) {i : Int} (h0 : 0 ≤ i) (h1 : i < l.length) : PArea (rd_T63 l i).f0 (rd_T63 l i).f1 (rd_T63 l i).f2 (rd_T63 l i).f3 (rd_T63 l i).f4 := by
  have hlt : i.toNat < l.length := by omega
  have e : rd_T63 l i = l[i.toNat] := by
    show l.getD i.toNat _ = _
    rw [List.getD_eq_getElem?_getD, List.getElem?_eq_getElem hlt]
    rfl
  rw [e]
  exact h.2 _ (List.getElem_mem hlt)
/-- The square distance of a place from the area with an index. -/
def sqAt (l : List S63) (x y i : Int) : Int := PSq (rd_T63 l i).f1 (rd_T63 l i).f2 (rd_T63 l i).f3 (rd_T63 l i).f4 x y
theorem spec_sqAt {l : List S63} (h : PSite l) {x y : Int} (hp : PPlace x y) {i : Int} (h0 : 0 ≤ i) (h1 : i < l.length) : spec_l15Square.f (rd_T63 l i).f0 (rd_T63 l i).f1 (rd_T63 l i).f2 (rd_T63 l i).f3 (rd_T63 l i).f4 x y = some (sqAt l x y i) := by
  have ha := area_at h h0 h1
  unfold PArea at ha
  exact spec_Square_eq hp (by unfold PPlace; omega) (by omega) (by omega)
theorem impl_sqAt {l : List S63} (h : PSite l) {x y : Int} (hp : PPlace x y) {i : Int} (h0 : 0 ≤ i) (h1 : i < l.length) : impl_squareTo.f (rd_T63 l i).f0 (rd_T63 l i).f1 (rd_T63 l i).f2 (rd_T63 l i).f3 (rd_T63 l i).f4 x y = some (sqAt l x y i) := by
  have ha := area_at h h0 h1
  unfold PArea at ha
  exact impl_square_eq hp (by unfold PPlace; omega) (by omega) (by omega)
theorem sqAt_bd {l : List S63} (h : PSite l) {x y : Int} (hp : PPlace x y) {i : Int} (h0 : 0 ≤ i) (h1 : i < l.length) : 0 ≤ sqAt l x y i ∧ sqAt l x y i ≤ 20000000000 := by
  have ha := area_at h h0 h1
  unfold PArea at ha
  exact PSq_bd hp (by unfold PPlace; omega) (by omega) (by omega)
/-- The nearest area of a kind from the index i on, d of them looked at, the best so far given. -/
def nearF (l : List S63) (kind x y : Int) : Nat → Int → Int → Int
  | 0, _, best => best
  | d + 1, i, best => if (rd_T63 l i).f0 = kind then (if best < 0 then nearF l kind x y d (i + 1) i else if sqAt l x y i < sqAt l x y best then nearF l kind x y d (i + 1) i else nearF l kind x y d (i + 1) best) else nearF l kind x y d (i + 1) best
theorem nearF_range (l : List S63) (kind x y n : Int) : ∀ (d : Nat) (i best : Int), 0 ≤ i → i + d = n → -1 ≤ best → best < n → -1 ≤ nearF l kind x y d i best ∧ nearF l kind x y d i best < n
  | 0, i, best, _, _, h2, h3 => ⟨h2, h3⟩
  | d + 1, i, best, h0, h1, h2, h3 => by
    unfold nearF
    split
    · split
      · exact nearF_range l kind x y n d _ _ (by omega) (by omega) (by omega) (by omega)
      · split
        · exact nearF_range l kind x y n d _ _ (by omega) (by omega) (by omega) (by omega)
        · exact nearF_range l kind x y n d _ _ (by omega) (by omega) (by omega) (by omega)
    · exact nearF_range l kind x y n d _ _ (by omega) (by omega) (by omega) (by omega)
theorem spec_near_l0 {l : List S63} (h : PSite l) {x y : Int} (hp : PPlace x y) (kind : Int) : ∀ (d : Nat) (i best : Int), 0 ≤ i → i + d = l.length → -1 ≤ best → best < l.length →
    Ev (fun k => spec_l15Nearest.l0 k l kind x y best (if best < 0 then 0 else sqAt l x y best) i) (nearF l kind x y d i best, if nearF l kind x y d i best < 0 then 0 else sqAt l x y (nearF l kind x y d i best))
  | 0, i, best, h0, h1, h2, h3 => by
    refine Ev_shift ?_
    simp only [spec_l15Nearest.l0, if_neg (show ¬ i < (l.length : Int) by omega), nearF]
    exact Ev.now _
  | d + 1, i, best, h0, h1, h2, h3 => by
    have hl := h.1
    have hi : i < (l.length : Int) := by omega
    refine Ev_shift ?_
    unfold nearF
    simp only [spec_l15Nearest.l0, if_pos hi, if_pos h0, spec_sqAt h hp h0 hi, Option.bind_some, w64 (n := i + 1) (by omega)]
    have take := spec_near_l0 h hp kind d (i + 1) i (by omega) (by omega) (by omega) hi
    simp only [if_neg (show ¬ i < 0 by omega)] at take
    have keep := spec_near_l0 h hp kind d (i + 1) best (by omega) (by omega) h2 h3
    by_cases c1 : (rd_T63 l i).f0 = kind
    · simp only [if_pos c1]
      by_cases c2 : best < 0
      · simp only [if_pos c2] at keep ⊢
        exact take
      · simp only [if_neg c2] at keep ⊢
        by_cases c3 : sqAt l x y i < sqAt l x y best
        · simp only [if_pos c3]
          exact take
        · simp only [if_neg c3]
          exact keep
    · simp only [if_neg c1]
      exact keep
theorem spec_near {l : List S63} (h : PSite l) {x y : Int} (hp : PPlace x y) (kind : Int) : Ev (fun k => spec_l15Nearest.f k l kind x y) (nearF l kind x y l.length 0 (-1), if nearF l kind x y l.length 0 (-1) < 0 then 0 else sqAt l x y (nearF l kind x y l.length 0 (-1))) := by
  unfold spec_l15Nearest.f
  exact spec_near_l0 h hp kind l.length 0 (-1) (by omega) (by omega) (by omega) (by omega)
theorem impl_near_l0 {l : List S63} (h : PSite l) {x y : Int} (hp : PPlace x y) (kind : Int) : ∀ (d : Nat) (i best : Int), 0 ≤ i → i + d = l.length → -1 ≤ best → best < l.length →
    Ev (fun k => impl_nearestArea.l0 k l kind x y best l l.length i) (nearF l kind x y d i best)
  | 0, i, best, h0, h1, h2, h3 => by
    refine Ev_shift ?_
    simp only [impl_nearestArea.l0, if_neg (show ¬ i < (l.length : Int) by omega), nearF]
    exact Ev.now _
  | d + 1, i, best, h0, h1, h2, h3 => by
    have hl := h.1
    have hi : i < (l.length : Int) := by omega
    refine Ev_shift ?_
    unfold nearF
    have take := impl_near_l0 h hp kind d (i + 1) i (by omega) (by omega) (by omega) hi
    have keep := impl_near_l0 h hp kind d (i + 1) best (by omega) (by omega) h2 h3
    simp only [impl_nearestArea.l0, if_pos hi, if_pos h0, impl_sqAt h hp h0 hi, Option.bind_some, w64 (n := i + 1) (by omega)]
    by_cases c1 : (rd_T63 l i).f0 = kind
    · simp only [if_pos c1]
      by_cases c2 : best < 0
      · simp only [if_pos c2]
        exact take
      · simp only [if_neg c2, if_pos (show 0 ≤ best by omega), if_pos h3, impl_sqAt h hp (show 0 ≤ best by omega) h3, Option.bind_some]
        by_cases c3 : sqAt l x y i < sqAt l x y best
        · simp only [if_pos c3]
          exact take
        · simp only [if_neg c3]
          exact keep
    · simp only [if_neg c1]
      exact keep
theorem impl_near {l : List S63} (h : PSite l) {x y : Int} (hp : PPlace x y) (kind : Int) : Ev (fun k => impl_nearestArea.f k l kind x y) (nearF l kind x y l.length 0 (-1)) := by
  unfold impl_nearestArea.f
  exact impl_near_l0 h hp kind l.length 0 (-1) (by omega) (by omega) (by omega) (by omega)
theorem spec_l15Code_ev (l : List S63) (hn : l.length ≤ 140737488351232) (kind x y : Int) : Ev (fun k => spec_l15Code.f k l kind x y) (if PSite l then (if PPlace x y ∧ 0 ≤ kind ∧ kind ≤ 3 then 0 else 2) else 1) := ⟨l.length + 1, fun k hk => spec_l15Code_f l hn k (by omega) kind x y⟩
theorem sq_lt {a b : Int} (hb : 0 ≤ b) (h : a * a < b * b) : a < b := by
  rcases Int.lt_or_le a b with h1 | h1
  · exact h1
  · have := Int.mul_self_le_mul_self hb h1
    omega
theorem spec_root_l0 (n : Int) : ∀ (d : Nat) (low high : Int), 0 ≤ low → low < high → high ≤ 100001 → high - low ≤ d → low * low ≤ n → (high = 100001 ∨ n < high * high) → ∃ r, Ev (fun k => spec_l15Root.l0 k n low high) r ∧ 0 ≤ r ∧ r ≤ 100000 ∧ r * r ≤ n ∧ (r = 100000 ∨ n < (r + 1) * (r + 1))
  | 0, low, high, h0, h1, h2, hd, hl, hh => by omega
  | d + 1, low, high, h0, h1, h2, hd, hl, hh => by
    by_cases c : low + 1 < high
    · have hm : low < (low + high) / 2 ∧ (low + high) / 2 < high := by omega
      have hs := Int.mul_self_le_mul_self (a := (low + high) / 2) (b := 100001) (by omega) (by omega)
      have hs0 := Int.mul_nonneg (a := (low + high) / 2) (b := (low + high) / 2) (by omega) (by omega)
      have ht : wrap64 (Int.tdiv (wrap64 (low + high)) 2) = (low + high) / 2 := by rw [w64 (n := low + high) (by omega), Int.tdiv_eq_ediv_of_nonneg (by omega), w64 (by omega)]
      by_cases c2 : (low + high) / 2 * ((low + high) / 2) ≤ n
      · obtain ⟨r, e, hr⟩ := spec_root_l0 n d ((low + high) / 2) high (by omega) hm.2 h2 (by omega) c2 hh
        refine ⟨r, Ev_shift ?_, hr⟩
        simp only [spec_l15Root.l0, w64 (n := low + 1) (by omega), if_pos c, ht, w64 (n := (low + high) / 2 * ((low + high) / 2)) (by omega), if_pos c2]
        exact e
      · obtain ⟨r, e, hr⟩ := spec_root_l0 n d low ((low + high) / 2) h0 hm.1 (by omega) (by omega) hl (.inr (by omega))
        refine ⟨r, Ev_shift ?_, hr⟩
        simp only [spec_l15Root.l0, w64 (n := low + 1) (by omega), if_pos c, ht, w64 (n := (low + high) / 2 * ((low + high) / 2)) (by omega), if_neg c2]
        exact e
    · have e : high = low + 1 := by omega
      subst e
      refine ⟨low, Ev_shift ?_, h0, by omega, hl, by
        rcases hh with hh | hh
        · exact .inl (by omega)
        · exact .inr hh⟩
      simp only [spec_l15Root.l0, w64 (n := low + 1) (by omega), if_neg c]
      exact Ev.now _
theorem spec_root_ev {n : Int} (h : 0 ≤ n) : ∃ r, Ev (fun k => spec_l15Root.f k n) r ∧ 0 ≤ r ∧ r ≤ 100000 ∧ r * r ≤ n ∧ (r = 100000 ∨ n < (r + 1) * (r + 1)) := by
  unfold spec_l15Root.f
  exact spec_root_l0 n 100001 0 100001 (by omega) (by omega) (by omega) (by omega) (by omega) (.inl rfl)
theorem impl_root_l0 (n : Int) : ∀ (d : Nat) (low high : Int), 0 ≤ low → low ≤ high → high ≤ 3037000499 → high - low ≤ d → low * low ≤ n → n < (high + 1) * (high + 1) → ∃ r, Ev (fun k => impl_root.l0 k n low high) r ∧ 0 ≤ r ∧ r * r ≤ n ∧ n < (r + 1) * (r + 1)
  | d, low, high, h0, h1, h2, hd, hl, hh => by
    by_cases c : low < high
    · have hm : low < (low + high + 1) / 2 ∧ (low + high + 1) / 2 ≤ high := by omega
      have hs := Int.mul_self_le_mul_self (a := (low + high + 1) / 2) (b := 3037000499) (by omega) (by omega)
      have hs0 := Int.mul_nonneg (a := (low + high + 1) / 2) (b := (low + high + 1) / 2) (by omega) (by omega)
      have ht : wrap64 (Int.tdiv (wrap64 (wrap64 (low + high) + 1)) 2) = (low + high + 1) / 2 := by rw [w64 (n := low + high) (by omega), w64 (n := low + high + 1) (by omega), Int.tdiv_eq_ediv_of_nonneg (by omega), w64 (by omega)]
      cases d with
      | zero => omega
      | succ d =>
        by_cases c2 : (low + high + 1) / 2 * ((low + high + 1) / 2) ≤ n
        · obtain ⟨r, e, hr⟩ := impl_root_l0 n d ((low + high + 1) / 2) high (by omega) hm.2 h2 (by omega) c2 hh
          refine ⟨r, Ev_shift ?_, hr⟩
          simp only [impl_root.l0, if_pos c, ht, w64 (n := (low + high + 1) / 2 * ((low + high + 1) / 2)) (by omega), if_pos c2]
          exact e
        · obtain ⟨r, e, hr⟩ := impl_root_l0 n d low ((low + high + 1) / 2 - 1) h0 (by omega) (by omega) (by omega) hl (by rw [show (low + high + 1) / 2 - 1 + 1 = (low + high + 1) / 2 by omega]; omega)
          refine ⟨r, Ev_shift ?_, hr⟩
          simp only [impl_root.l0, if_pos c, ht, w64 (n := (low + high + 1) / 2 * ((low + high + 1) / 2)) (by omega), if_neg c2, w64 (n := (low + high + 1) / 2 - 1) (by omega)]
          exact e
    · have e : high = low := by omega
      subst e
      refine ⟨high, Ev_shift ?_, h0, hl, hh⟩
      simp only [impl_root.l0, if_neg c]
      exact Ev.now _
theorem impl_root_ev {n : Int} (h : 0 ≤ n) (h2 : n ≤ 9000000000000000000) : ∃ r, Ev (fun k => impl_root.f k n) r ∧ 0 ≤ r ∧ r * r ≤ n ∧ n < (r + 1) * (r + 1) := by
  unfold impl_root.f
  exact impl_root_l0 n 3037000499 0 3037000499 (by omega) (by omega) (by omega) (by omega) (by omega) (by omega)
theorem root_same {n r s : Int} (hr : 0 ≤ r ∧ r ≤ 100000 ∧ r * r ≤ n ∧ (r = 100000 ∨ n < (r + 1) * (r + 1))) (hs : 0 ≤ s ∧ s * s ≤ n ∧ n < (s + 1) * (s + 1)) : mn 100000 s = r := by
  have h1 : r < s + 1 := sq_lt (by omega) (by omega)
  unfold mn
  rcases hr.2.2.2 with e | e
  · rw [if_neg (by omega)]
    exact e.symm
  · have h2 : s < r + 1 := sq_lt (by omega) (by omega)
    split <;> omega
theorem sq_le {a : Int} (h : 0 ≤ a ∧ a ≤ 100000) : 0 ≤ a * a ∧ a * a ≤ 10000000000 := by
  have h1 := Int.mul_nonneg h.1 h.1
  have h2 := Int.mul_self_le_mul_self h.1 h.2
  omega
theorem good15_some {c : List Int} {a s : Int} (h : Src c a s) : ∃ k x y w d a' s', spec_l15Good.f c a s = some (k, x, y, w, d, a', s') ∧ Src c a' s' := by
  obtain ⟨v1, a1, s1, e1, h1, _, _⟩ := next_some h 4 (by omega)
  obtain ⟨v2, a2, s2, e2, h2, _, _⟩ := next_some h1 2000 (by omega)
  obtain ⟨v3, a3, s3, e3, h3, _, _⟩ := next_some h2 2000 (by omega)
  obtain ⟨v4, a4, s4, e4, h4, _, _⟩ := next_some h3 400 (by omega)
  obtain ⟨v5, a5, s5, e5, h5, _, _⟩ := next_some h4 400 (by omega)
  refine ⟨v1, v2, v3, wrap64 (1 + v4), wrap64 (1 + v5), a5, s5, ?_, h5⟩
  unfold spec_l15Good.f
  simp only [e1, e2, e3, e4, e5, Option.bind_some]
theorem draw15_some {c : List Int} {a s : Int} (h : Src c a s) : ∃ k x y w d a' s', spec_l15Draw.f c a s = some (k, x, y, w, d, a', s') ∧ Src c a' s' := by
  obtain ⟨k, x, y, w, d, a1, s1, e1, h1⟩ := good15_some h
  obtain ⟨v, a2, s2, e2, h2, _, _⟩ := next_some h1 60 (by omega)
  unfold spec_l15Draw.f
  simp only [e1, e2, Option.bind_some]
  by_cases c0 : v = 0
  · obtain ⟨p, a3, s3, e3, h3, _⟩ := pick_some h2 [(-1), 4] (by simp) (by simp)
    simp only [if_pos c0, e3, Option.bind_some]
    exact ⟨_, _, _, _, _, a3, s3, rfl, h3⟩
  · by_cases c1 : v = 1
    · obtain ⟨p, a3, s3, e3, h3, _⟩ := pick_some h2 [0, wrap64 (100000 - x), wrap64 ((wrap64 (100000 - x)) + 1)] (by simp) (by simp)
      simp only [if_neg c0, if_pos c1, e3, Option.bind_some]
      exact ⟨_, _, _, _, _, a3, s3, rfl, h3⟩
    · by_cases c2 : v = 2
      · obtain ⟨p, a3, s3, e3, h3, _⟩ := pick_some h2 [(-1), 0, 100000] (by simp) (by simp)
        simp only [if_neg c0, if_neg c1, if_pos c2, e3, Option.bind_some]
        exact ⟨_, _, _, _, _, a3, s3, rfl, h3⟩
      · simp only [if_neg c0, if_neg c1, if_neg c2]
        exact ⟨_, _, _, _, _, a2, s2, rfl, h2⟩
theorem fill15_l1 (c : List Int) : ∀ (d : Nat) (out : List S63) (a s : Int), Src c a s → 12 ≤ out.length + d → out.length ≤ 12 → ∃ l a' s', Ev (fun k => spec_l15Site.l1 k out c a s) (l, a', s') ∧ Src c a' s' ∧ l.length ≤ 30
  | d, out, a, s, h, hd, ho => by
    obtain ⟨v, a1, s1, e1, h1, v0, v1⟩ := next_some h 2 (by omega)
    by_cases c1 : (out.length : Int) < 10 + v
    · cases d with
      | zero => omega
      | succ d =>
        obtain ⟨k, x, y, w, dd, a2, s2, e2, h2⟩ := good15_some h1
        obtain ⟨l, a', s', e, hs, hl⟩ := fill15_l1 c d (out ++ [(⟨k, x, y, w, dd⟩ : S63)]) a2 s2 h2 (by simp; omega) (by simp; omega)
        refine ⟨l, a', s', Ev_shift ?_, hs, hl⟩
        simp only [spec_l15Site.l1, e1, e2, Option.bind_some, w64 (n := 10 + v) (by omega), if_pos c1, if_pos (show out.length < 3518437208883 by omega)]
        exact e
    · refine ⟨out, a1, s1, Ev_shift ?_, h1, by omega⟩
      simp only [spec_l15Site.l1, e1, Option.bind_some, w64 (n := 10 + v) (by omega), if_neg c1]
      exact Ev.now _
theorem site15_l0 (c : List Int) : ∀ (d : Nat) (out : List S63) (a s : Int), Src c a s → out.length + d ≤ 6 → ∃ l a' s', Ev (fun k => spec_l15Site.l0 k out d c a s) (l, a', s') ∧ Src c a' s' ∧ l.length ≤ 30
  | 0, out, a, s, h, hd => by
    obtain ⟨v, a1, s1, e1, h1, v0, v1⟩ := next_some h 30 (by omega)
    by_cases c0 : v = 0
    · obtain ⟨l, a', s', e, hs, hl⟩ := fill15_l1 c 12 out a1 s1 h1 (by omega) (by omega)
      refine ⟨l, a', s', Ev_shift ?_, hs, hl⟩
      simp only [spec_l15Site.l0, if_neg (show ¬ ((0 : Nat) : Int) > 0 by decide), e1, Option.bind_some, if_pos c0]
      exact e
    · refine ⟨out, a1, s1, Ev_shift ?_, h1, by omega⟩
      simp only [spec_l15Site.l0, if_neg (show ¬ ((0 : Nat) : Int) > 0 by decide), e1, Option.bind_some, if_neg c0]
      exact Ev.now _
  | d + 1, out, a, s, h, hd => by
    obtain ⟨k, x, y, w, dd, a2, s2, e2, h2⟩ := draw15_some h
    obtain ⟨l, a', s', e, hs, hl⟩ := site15_l0 c d (out ++ [(⟨k, x, y, w, dd⟩ : S63)]) a2 s2 h2 (by simp; omega)
    refine ⟨l, a', s', Ev_shift ?_, hs, hl⟩
    simp only [spec_l15Site.l0, if_pos (show ((d + 1 : Nat) : Int) > 0 by omega), e2, Option.bind_some, if_pos (show out.length < 3518437208883 by omega), w64 (n := ((d + 1 : Nat) : Int) - 1) (by omega), show ((d + 1 : Nat) : Int) - 1 = (d : Int) by omega, w64 (n := (d : Int)) (by omega)]
    exact e
theorem site15_ev {c : List Int} {a s : Int} (h : Src c a s) : ∃ l a' s', Ev (fun k => spec_l15Site.f k c a s) (l, a', s') ∧ Src c a' s' ∧ l.length ≤ 30 := by
  obtain ⟨v, a1, s1, e1, h1, v0, v1⟩ := next_some h 6 (by omega)
  obtain ⟨l, a', s', e, hs, hl⟩ := site15_l0 c v.toNat [] a1 s1 h1 (by simp; omega)
  rw [show ((v.toNat : Nat) : Int) = v by omega] at e
  refine ⟨l, a', s', ?_, hs, hl⟩
  unfold spec_l15Site.f
  simp only [e1, Option.bind_some]
  exact e
theorem at15_some {c : List Int} {a s : Int} (h : Src c a s) : ∃ x y a' s', spec_l15At.f c a s = some (x, y, a', s') ∧ Src c a' s' := by
  obtain ⟨v, a1, s1, e1, h1, v0, v1⟩ := next_some h 24 (by omega)
  unfold spec_l15At.f
  simp only [e1, Option.bind_some]
  by_cases c0 : v = 0
  · obtain ⟨p, a2, s2, e2, h2, _⟩ := pick_some h1 [(-1), 0, 100000, 100001] (by simp) (by simp)
    obtain ⟨q, a3, s3, e3, h3, _, _⟩ := next_some h2 2000 (by omega)
    simp only [if_pos c0, e2, e3, Option.bind_some]
    exact ⟨_, _, a3, s3, rfl, h3⟩
  · obtain ⟨p, a2, s2, e2, h2, _, _⟩ := next_some h1 2400 (by omega)
    obtain ⟨q, a3, s3, e3, h3, _, _⟩ := next_some h2 2400 (by omega)
    simp only [if_neg c0, e2, e3, Option.bind_some]
    exact ⟨_, _, a3, s3, rfl, h3⟩
theorem drawFree_ev (c : List Int) (hc : c.length ≤ 4096) (hb : ∀ x ∈ c, 0 ≤ x ∧ x ≤ 255) : ∃ (l : List S63) (kind x y : Int), Ev (fun k => spec_DrawFreeRadius.f k c) (l, kind, x, y) ∧ l.length ≤ 30 := by
  obtain ⟨s, e0, h0⟩ := from_ev c hc hb
  obtain ⟨l, a1, s1, e1, h1, hl⟩ := site15_ev h0
  obtain ⟨x, y, a2, s2, e2, h2⟩ := at15_some h1
  obtain ⟨v, a3, s3, e3, h3, _, _⟩ := next_some h2 4 (by omega)
  obtain ⟨u, a4, s4, e4, h4, _, _⟩ := next_some h3 24 (by omega)
  refine ⟨l, wrap64 (v + wrap64 (Int.tdiv u 23)), x, y, ?_, hl⟩
  unfold spec_DrawFreeRadius.f
  refine Ev.bind (a := (l, wrap64 (v + wrap64 (Int.tdiv u 23)), x, y)) ?_ (Ev.now _)
  unfold spec_DrawNearestArea.f
  refine Ev.bind e0 (Ev.bind e1 ?_)
  simp only [e2, e3, e4, Option.bind_some]
  exact Ev.now _
theorem drawSq_ev (c : List Int) (hc : c.length ≤ 4096) (hb : ∀ x ∈ c, 0 ≤ x ∧ x ≤ 255) : ∃ k x y w d p q : Int, Ev (fun n => spec_DrawSquareTo.f n c) (k, x, y, w, d, p, q) := by
  obtain ⟨s, e0, h0⟩ := from_ev c hc hb
  obtain ⟨k, x, y, w, d, a1, s1, e1, h1⟩ := draw15_some h0
  obtain ⟨p, q, a2, s2, e2, h2⟩ := at15_some h1
  refine ⟨k, x, y, w, d, p, q, ?_⟩
  unfold spec_DrawSquareTo.f
  refine Ev.bind e0 ?_
  simp only [e1, e2, Option.bind_some]
  exact Ev.now _
theorem sqTo_ev (k x y w d p q : Int) : ∃ s c, Ev (fun n => spec_SquareTo.f n k x y w d p q) (s, c) ∧ impl_SquareTo.f k x y w d p q = some (s, c) ∧ (PArea k x y w d → PPlace p q → s = PSq x y w d p q ∧ c = 0) := by
  have hs := spec_l15Code_ev [(⟨k, x, y, w, d⟩ : S63)] (by simp) 0 p q
  by_cases h : PArea k x y w d
  · have hsite : PSite [(⟨k, x, y, w, d⟩ : S63)] := ⟨by simp, by simpa using h⟩
    rw [if_pos hsite] at hs
    by_cases h2 : PPlace p q
    · have h' := h
      unfold PArea at h'
      have hp : PPlace x y := by unfold PPlace; omega
      rw [if_pos ⟨h2, by omega, by omega⟩] at hs
      refine ⟨PSq x y w d p q, 0, ?_, ?_, fun _ _ => ⟨rfl, rfl⟩⟩
      · unfold spec_SquareTo.f
        refine Ev.bind hs ?_
        simp only [if_true, spec_Square_eq h2 hp (show 1 ≤ w ∧ w ≤ 100000 - x by omega) (show 1 ≤ d ∧ d ≤ 100000 - y by omega), Option.bind_some]
        exact Ev.now _
      · unfold impl_SquareTo.f
        simp only [impl_IsArea_eq, impl_place_eq, Option.bind_some, decide_eq_true h, decide_eq_true h2, if_true, impl_square_eq h2 hp (show 1 ≤ w ∧ w ≤ 100000 - x by omega) (show 1 ≤ d ∧ d ≤ 100000 - y by omega)]
    · rw [if_neg (fun hh => h2 hh.1)] at hs
      refine ⟨0, 2, ?_, ?_, fun _ hh => absurd hh h2⟩
      · unfold spec_SquareTo.f
        refine Ev.bind hs ?_
        simp only [if_neg (show ¬ (2 : Int) = 0 by decide)]
        exact Ev.now _
      · unfold impl_SquareTo.f
        simp only [impl_IsArea_eq, impl_place_eq, Option.bind_some, decide_eq_true h, decide_eq_false h2, if_true, Bool.false_eq_true, if_false]
  · have hsite : ¬ PSite [(⟨k, x, y, w, d⟩ : S63)] := fun hs => h (by simpa using hs.2)
    rw [if_neg hsite] at hs
    refine ⟨0, 1, ?_, ?_, fun hh => absurd hh h⟩
    · unfold spec_SquareTo.f
      refine Ev.bind hs ?_
      simp only [if_neg (show ¬ (1 : Int) = 0 by decide)]
      exact Ev.now _
    · unfold impl_SquareTo.f
      simp only [impl_IsArea_eq, Option.bind_some, decide_eq_false h, Bool.false_eq_true, if_false]
theorem nearF_best (l : List S63) (kind x y : Int) : ∀ (d : Nat) (i best : Int), 0 ≤ i → -1 ≤ best → best < i →
    (∀ j : Int, 0 ≤ j → j < i → (rd_T63 l j).f0 = kind → 0 ≤ best ∧ sqAt l x y best ≤ sqAt l x y j ∧ (sqAt l x y best = sqAt l x y j → best ≤ j)) →
    ∀ j : Int, 0 ≤ j → j < i + d → (rd_T63 l j).f0 = kind → 0 ≤ nearF l kind x y d i best ∧ sqAt l x y (nearF l kind x y d i best) ≤ sqAt l x y j ∧ (sqAt l x y (nearF l kind x y d i best) = sqAt l x y j → nearF l kind x y d i best ≤ j)
  | 0, i, best, h0, h1, h2, hb, j, j0, j1, hj => hb j j0 (by omega) hj
  | d + 1, i, best, h0, h1, h2, hb, j, j0, j1, hj => by
    have ej : i + ((d + 1 : Nat) : Int) = i + 1 + d := by omega
    rw [ej] at j1
    unfold nearF
    by_cases c1 : (rd_T63 l i).f0 = kind
    · rw [if_pos c1]
      by_cases c2 : best < 0
      · rw [if_pos c2]
        refine nearF_best l kind x y d (i + 1) i (by omega) (by omega) (by omega) (fun m m0 m1 hm => ?_) j j0 j1 hj
        by_cases e : m = i
        · rw [e]
          exact ⟨h0, Int.le_refl _, fun _ => Int.le_refl _⟩
        · have := (hb m m0 (by omega) hm).1
          omega
      · rw [if_neg c2]
        by_cases c3 : sqAt l x y i < sqAt l x y best
        · rw [if_pos c3]
          refine nearF_best l kind x y d (i + 1) i (by omega) (by omega) (by omega) (fun m m0 m1 hm => ?_) j j0 j1 hj
          by_cases e : m = i
          · rw [e]
            exact ⟨h0, Int.le_refl _, fun _ => Int.le_refl _⟩
          · have := hb m m0 (by omega) hm
            exact ⟨h0, by omega, fun e => by omega⟩
        · rw [if_neg c3]
          refine nearF_best l kind x y d (i + 1) best (by omega) h1 (by omega) (fun m m0 m1 hm => ?_) j j0 j1 hj
          by_cases e : m = i
          · rw [e]
            exact ⟨by omega, by omega, fun _ => by omega⟩
          · exact hb m m0 (by omega) hm
    · rw [if_neg c1]
      refine nearF_best l kind x y d (i + 1) best (by omega) h1 (by omega) (fun m m0 m1 hm => ?_) j j0 j1 hj
      by_cases e : m = i
      · rw [e] at hm
        exact absurd hm c1
      · exact hb m m0 (by omega) hm
theorem free_ev (m0 : List S63) (a1 a2 a3 : Int) (hn0 : m0.length ≤ 1000000) : ∃ q : Int × Int, Ev (fun k => spec_FreeRadius.f k m0 a1 a2 a3) q ∧ Ev (fun k => impl_FreeRadius.f k m0 a1 a2 a3) q ∧ (q.2 = 0 → PSite m0 ∧ PPlace a2 a3 ∧ (0 ≤ a1 ∧ a1 ≤ 3) ∧ (nearF m0 a1 a2 a3 m0.length 0 (-1) < 0 → q.1 = 100000) ∧ (¬ nearF m0 a1 a2 a3 m0.length 0 (-1) < 0 → 0 ≤ q.1 ∧ q.1 ≤ 100000 ∧ q.1 * q.1 ≤ sqAt m0 a2 a3 (nearF m0 a1 a2 a3 m0.length 0 (-1)) ∧ (q.1 = 100000 ∨ sqAt m0 a2 a3 (nearF m0 a1 a2 a3 m0.length 0 (-1)) < (q.1 + 1) * (q.1 + 1)))) := by
  have fin : ∀ q : Int × Int, (q.2 = 0 → PSite m0 ∧ PPlace a2 a3 ∧ (0 ≤ a1 ∧ a1 ≤ 3) ∧ (nearF m0 a1 a2 a3 m0.length 0 (-1) < 0 → q.1 = 100000) ∧ (¬ nearF m0 a1 a2 a3 m0.length 0 (-1) < 0 → 0 ≤ q.1 ∧ q.1 ≤ 100000 ∧ q.1 * q.1 ≤ sqAt m0 a2 a3 (nearF m0 a1 a2 a3 m0.length 0 (-1)) ∧ (q.1 = 100000 ∨ sqAt m0 a2 a3 (nearF m0 a1 a2 a3 m0.length 0 (-1)) < (q.1 + 1) * (q.1 + 1)))) → Ev (fun k => spec_FreeRadius.f k m0 a1 a2 a3) q → Ev (fun k => impl_FreeRadius.f k m0 a1 a2 a3) q → _ := fun q h1 h2 h3 => (⟨q, h2, h3, h1⟩ : ∃ q : Int × Int, Ev (fun k => spec_FreeRadius.f k m0 a1 a2 a3) q ∧ Ev (fun k => impl_FreeRadius.f k m0 a1 a2 a3) q ∧ (q.2 = 0 → PSite m0 ∧ PPlace a2 a3 ∧ (0 ≤ a1 ∧ a1 ≤ 3) ∧ (nearF m0 a1 a2 a3 m0.length 0 (-1) < 0 → q.1 = 100000) ∧ (¬ nearF m0 a1 a2 a3 m0.length 0 (-1) < 0 → 0 ≤ q.1 ∧ q.1 ≤ 100000 ∧ q.1 * q.1 ≤ sqAt m0 a2 a3 (nearF m0 a1 a2 a3 m0.length 0 (-1)) ∧ (q.1 = 100000 ∨ sqAt m0 a2 a3 (nearF m0 a1 a2 a3 m0.length 0 (-1)) < (q.1 + 1) * (q.1 + 1)))))
  have hs := spec_l15Code_ev m0 (by omega) a1 a2 a3
  have hi := impl_IsSite_ev m0 (by omega)
  have bad : Ev (fun k => impl_FreeRadius.j0 k m0 a1 a2 a3 true) ((0 : Int), (2 : Int)) := by
    refine Ev_shift ?_
    simp only [impl_FreeRadius.j0, if_true]
    exact Ev.now _
  by_cases h : PSite m0
  · rw [if_pos h] at hs
    by_cases c1 : 0 ≤ a1 ∧ a1 ≤ 3
    · by_cases c2 : PPlace a2 a3
      · rw [if_pos ⟨c2, c1⟩] at hs
        have hr := nearF_range m0 a1 a2 a3 m0.length m0.length 0 (-1) (by omega) (by omega) (by omega) (by omega)
        have hi2 : ∀ q, Ev (fun k => (impl_nearestArea.f k m0 a1 a2 a3).bind fun t167 => (if t167 < 0 then (some (100000, 0)) else (if 0 ≤ t167 then (if t167 < (m0.length : Int) then ((impl_squareTo.f ((rd_T63 m0 t167).f0) ((rd_T63 m0 t167).f1) ((rd_T63 m0 t167).f2) ((rd_T63 m0 t167).f3) ((rd_T63 m0 t167).f4) a2 a3).bind fun t169 => ((impl_root.f k t169).bind fun t170 => (some (mn 100000 t170, 0)))) else (none)) else (none)))) q → Ev (fun k => impl_FreeRadius.f k m0 a1 a2 a3) q := fun q hq => by
          unfold impl_FreeRadius.f
          refine Ev.bind hi ?_
          simp only [decide_eq_true h, if_true, impl_isKind_eq, impl_place_eq, Option.bind_some, decide_eq_true_eq, if_pos c1, decide_eq_true c2, Bool.not_true]
          refine Ev_shift ?_
          simp only [impl_FreeRadius.j0, Bool.false_eq_true, if_false]
          refine Ev_eq (r := q) ?_ rfl
          obtain ⟨K, hK⟩ := hq
          exact ⟨K, fun k hk => hK k hk⟩
        by_cases c3 : nearF m0 a1 a2 a3 m0.length 0 (-1) < 0
        · refine fin (100000, 0) (fun _ => ⟨h, c2, c1, fun _ => rfl, fun g => absurd c3 g⟩) ?_ (hi2 _ ?_)
          · unfold spec_FreeRadius.f
            refine Ev.bind hs ?_
            simp only [if_true]
            refine Ev.bind (spec_near h c2 a1) ?_
            simp only [if_pos c3]
            exact Ev.now _
          · refine Ev.bind (impl_near h c2 a1) ?_
            simp only [if_pos c3]
            exact Ev.now _
        · have hb := sqAt_bd h c2 (show 0 ≤ nearF m0 a1 a2 a3 m0.length 0 (-1) by omega) hr.2
          obtain ⟨r, er, hr1⟩ := spec_root_ev hb.1
          obtain ⟨s, es, hs1⟩ := impl_root_ev hb.1 (by omega)
          refine fin (r, 0) (fun _ => ⟨h, c2, c1, fun g => absurd g c3, fun _ => hr1⟩) ?_ (hi2 _ ?_)
          · unfold spec_FreeRadius.f
            refine Ev.bind hs ?_
            simp only [if_true]
            refine Ev.bind (spec_near h c2 a1) ?_
            simp only [if_neg c3]
            exact Ev.bind er (Ev.now _)
          · refine Ev.bind (impl_near h c2 a1) ?_
            simp only [if_neg c3, if_pos (show 0 ≤ nearF m0 a1 a2 a3 m0.length 0 (-1) by omega), if_pos hr.2, impl_sqAt h c2 (show 0 ≤ nearF m0 a1 a2 a3 m0.length 0 (-1) by omega) hr.2, Option.bind_some]
            exact Ev.bind es (Ev_some (by rw [root_same hr1 hs1]))
      · rw [if_neg (fun hh => c2 hh.1)] at hs
        refine fin (0, 2) (fun e => absurd e (by decide)) ?_ ?_
        · unfold spec_FreeRadius.f
          exact Ev.bind hs (Ev.now _)
        · unfold impl_FreeRadius.f
          refine Ev.bind hi ?_
          simp only [decide_eq_true h, if_true, impl_isKind_eq, impl_place_eq, Option.bind_some, decide_eq_true_eq, if_pos c1, decide_eq_false c2, Bool.not_false]
          exact bad
    · rw [if_neg (fun hh => c1 hh.2)] at hs
      refine fin (0, 2) (fun e => absurd e (by decide)) ?_ ?_
      · unfold spec_FreeRadius.f
        exact Ev.bind hs (Ev.now _)
      · unfold impl_FreeRadius.f
        refine Ev.bind hi ?_
        simp only [decide_eq_true h, if_true, impl_isKind_eq, Option.bind_some, decide_eq_true_eq, if_neg c1]
        exact bad
  · rw [if_neg h] at hs
    refine fin (0, 1) (fun e => absurd e (by decide)) ?_ ?_
    · unfold spec_FreeRadius.f
      exact Ev.bind hs (Ev.now _)
    · unfold impl_FreeRadius.f
      refine Ev.bind hi ?_
      simp only [decide_eq_false h, Bool.false_eq_true, if_false]
      exact Ev.now _
theorem nearA_ev (m0 : List S63) (a1 a2 a3 : Int) (hn0 : m0.length ≤ 1000000) : ∃ q : Int × Int × Int, Ev (fun k => spec_NearestArea.f k m0 a1 a2 a3) q ∧ Ev (fun k => impl_NearestArea.f k m0 a1 a2 a3) q ∧ (PSite m0 → PPlace a2 a3 → (0 ≤ a1 ∧ a1 ≤ 3) → q = (if nearF m0 a1 a2 a3 m0.length 0 (-1) < 0 then (0, 0, 4) else (nearF m0 a1 a2 a3 m0.length 0 (-1), sqAt m0 a2 a3 (nearF m0 a1 a2 a3 m0.length 0 (-1)), 0))) := by
  have fin : ∀ q : Int × Int × Int, (PSite m0 → PPlace a2 a3 → (0 ≤ a1 ∧ a1 ≤ 3) → q = (if nearF m0 a1 a2 a3 m0.length 0 (-1) < 0 then (0, 0, 4) else (nearF m0 a1 a2 a3 m0.length 0 (-1), sqAt m0 a2 a3 (nearF m0 a1 a2 a3 m0.length 0 (-1)), 0))) → Ev (fun k => spec_NearestArea.f k m0 a1 a2 a3) q → Ev (fun k => impl_NearestArea.f k m0 a1 a2 a3) q → ∃ q : Int × Int × Int, Ev (fun k => spec_NearestArea.f k m0 a1 a2 a3) q ∧ Ev (fun k => impl_NearestArea.f k m0 a1 a2 a3) q ∧ (PSite m0 → PPlace a2 a3 → (0 ≤ a1 ∧ a1 ≤ 3) → q = (if nearF m0 a1 a2 a3 m0.length 0 (-1) < 0 then (0, 0, 4) else (nearF m0 a1 a2 a3 m0.length 0 (-1), sqAt m0 a2 a3 (nearF m0 a1 a2 a3 m0.length 0 (-1)), 0))) := fun q h1 h2 h3 => ⟨q, h2, h3, h1⟩
  have hs := spec_l15Code_ev m0 (by omega) a1 a2 a3
  have hi := impl_IsSite_ev m0 (by omega)
  have bad : Ev (fun k => impl_NearestArea.j0 k m0 a1 a2 a3 true) ((0 : Int), (0 : Int), (2 : Int)) := by
    refine Ev_shift ?_
    simp only [impl_NearestArea.j0, if_true]
    exact Ev.now _
  by_cases h : PSite m0
  · rw [if_pos h] at hs
    by_cases c1 : 0 ≤ a1 ∧ a1 ≤ 3
    · by_cases c2 : PPlace a2 a3
      · rw [if_pos ⟨c2, c1⟩] at hs
        have hr := nearF_range m0 a1 a2 a3 m0.length m0.length 0 (-1) (by omega) (by omega) (by omega) (by omega)
        refine fin (if nearF m0 a1 a2 a3 m0.length 0 (-1) < 0 then (0, 0, 4) else (nearF m0 a1 a2 a3 m0.length 0 (-1), sqAt m0 a2 a3 (nearF m0 a1 a2 a3 m0.length 0 (-1)), 0)) (fun _ _ _ => rfl) ?_ ?_
        · unfold spec_NearestArea.f
          refine Ev.bind hs ?_
          simp only [if_true]
          refine Ev.bind (spec_near h c2 a1) ?_
          by_cases c3 : nearF m0 a1 a2 a3 m0.length 0 (-1) < 0
          · simp only [if_pos c3]
            exact Ev.now _
          · simp only [if_neg c3]
            exact Ev.now _
        · unfold impl_NearestArea.f
          refine Ev.bind hi ?_
          simp only [decide_eq_true h, if_true, impl_isKind_eq, impl_place_eq, Option.bind_some, decide_eq_true_eq, if_pos c1, decide_eq_true c2, Bool.not_true]
          refine Ev_shift ?_
          simp only [impl_NearestArea.j0, Bool.false_eq_true, if_false]
          refine Ev.bind (impl_near h c2 a1) ?_
          by_cases c3 : nearF m0 a1 a2 a3 m0.length 0 (-1) < 0
          · simp only [if_pos c3]
            exact Ev.now _
          · simp only [if_neg c3, if_pos (show 0 ≤ nearF m0 a1 a2 a3 m0.length 0 (-1) by omega), if_pos hr.2, impl_sqAt h c2 (show 0 ≤ nearF m0 a1 a2 a3 m0.length 0 (-1) by omega) hr.2, Option.bind_some]
            exact Ev.now _
      · rw [if_neg (fun hh => c2 hh.1)] at hs
        refine fin (0, 0, 2) (fun _ g _ => absurd g c2) ?_ ?_
        · unfold spec_NearestArea.f
          exact Ev.bind hs (Ev.now _)
        · unfold impl_NearestArea.f
          refine Ev.bind hi ?_
          simp only [decide_eq_true h, if_true, impl_isKind_eq, impl_place_eq, Option.bind_some, decide_eq_true_eq, if_pos c1, decide_eq_false c2, Bool.not_false]
          exact bad
    · rw [if_neg (fun hh => c1 hh.2)] at hs
      refine fin (0, 0, 2) (fun _ _ g => absurd g c1) ?_ ?_
      · unfold spec_NearestArea.f
        exact Ev.bind hs (Ev.now _)
      · unfold impl_NearestArea.f
        refine Ev.bind hi ?_
        simp only [decide_eq_true h, if_true, impl_isKind_eq, Option.bind_some, decide_eq_true_eq, if_neg c1]
        exact bad
  · rw [if_neg h] at hs
    refine fin (0, 0, 1) (fun g => absurd g h) ?_ ?_
    · unfold spec_NearestArea.f
      exact Ev.bind hs (Ev.now _)
    · unfold impl_NearestArea.f
      refine Ev.bind hi ?_
      simp only [decide_eq_false h, Bool.false_eq_true, if_false]
      exact Ev.now _
theorem sites_loop (l : List S63) (h : PSite l) (kind x y : Int) (hp : PPlace x y) (r K d one : Int) (hfin : Ev (fun _ => if one = 4 then (if r = 100000 then (some true) else (if one = 0 then (some (decide ((wrap64 ((wrap64 (r + 1)) * (wrap64 (r + 1)))) > d))) else (some false))) else (if one = 0 then (if r = 100000 then (some true) else (some (decide ((wrap64 ((wrap64 (r + 1)) * (wrap64 (r + 1)))) > d)))) else (some false))) true)
    (hr : 0 ≤ r ∧ r ≤ 100000) (hgood : ∀ j : Int, 0 ≤ j → j < l.length → (rd_T63 l j).f0 = kind → d ≤ sqAt l x y j ∧ r * r ≤ sqAt l x y j ∧ (sqAt l x y j = d → K ≤ j)) : ∀ (e : Nat) (i : Int), 0 ≤ i → i + e = l.length → Ev (fun k => laws_FnSites.l0 k l kind x y r K d one i) true
  | 0, i, h0, he => by
    refine Ev_shift ?_
    simp only [laws_FnSites.l0, if_neg (show ¬ i < (l.length : Int) by omega)]
    exact hfin
  | e + 1, i, h0, he => by
    have hl := h.1
    have hi : i < (l.length : Int) := by omega
    have ha := area_at h h0 hi
    obtain ⟨s, c, _, eq, hc⟩ := sqTo_ev (rd_T63 l i).f0 (rd_T63 l i).f1 (rd_T63 l i).f2 (rd_T63 l i).f3 (rd_T63 l i).f4 x y
    obtain ⟨e1, e2⟩ := hc ha hp
    have hs : s = sqAt l x y i := e1
    have hq := sq_le hr
    have next := sites_loop l h kind x y hp r K d one hfin hr hgood e (i + 1) (by omega) (by omega)
    refine Ev_shift ?_
    simp only [laws_FnSites.l0, if_pos hi, if_pos h0, eq, Option.bind_some, if_pos e2, w64 (n := r * r) (by omega), w64 (n := i + 1) (by omega)]
    by_cases c1 : (rd_T63 l i).f0 = kind
    · have hg := hgood i h0 hi c1
      rw [← hs] at hg
      simp only [if_pos c1, if_neg (show ¬ s < d by omega), if_neg (show ¬ s < r * r by omega)]
      by_cases c2 : s = d
      · have := hg.2.2 c2
        simp only [if_pos c2, if_neg (show ¬ i < K by omega)]
        exact next
      · simp only [if_neg c2]
        exact next
    · simp only [if_neg c1]
      exact next
theorem FnSites : laws_FnSites.Pure := by
  intro c _ _ hw
  have hb := u8_rng hw
  by_cases big : (c.length : Int) > 4096
  · refine ⟨0, ?_⟩
    unfold laws_FnSites.f laws_big.f
    simp only [Option.bind_some, decide_eq_true big, if_true]
  · suffices hq : Ev (fun k => laws_FnSites.f k c) true by
      obtain ⟨K, hK⟩ := hq
      exact ⟨K, hK K (Nat.le_refl _)⟩
    obtain ⟨l, kind, x, y, ed, hl⟩ := drawFree_ev c (by omega) hb
    obtain ⟨ak, ax, ay, aw, ad, p, q, eq⟩ := drawSq_ev c (by omega) hb
    obtain ⟨⟨r, bad⟩, fs, fi, fok⟩ := free_ev l kind x y (by omega)
    obtain ⟨⟨K, d, one⟩, ns, ni, nok⟩ := nearA_ev l kind x y (by omega)
    obtain ⟨s, c3, ss, si, _⟩ := sqTo_ev ak ax ay aw ad p q
    have i1 := impl_IsSite_ev l (by omega)
    have i2 := spec_IsSite_ev l (by omega)
    unfold laws_FnSites.f laws_big.f
    simp only [Option.bind_some, decide_eq_false big, Bool.false_eq_true, if_false]
    refine Ev.bind ed (Ev.bind fi (Ev.bind fs (Ev.bind ni (Ev.bind ns (Ev.bind eq ?_)))))
    simp only [si, Option.bind_some]
    refine Ev.bind ss ?_
    simp only [if_true, impl_IsArea_eq, spec_IsArea_eq, Option.bind_some, bne_self_eq_false, Bool.false_eq_true, if_false]
    refine Ev.bind i1 (Ev.bind i2 ?_)
    simp only [bne_self_eq_false]
    refine Ev_shift ?_
    simp only [laws_FnSites.j0, Bool.false_eq_true, if_false]
    by_cases c0 : bad = 0
    · obtain ⟨hp, hpl, hk, hneg, hpos⟩ := fok c0
      have hn := nok hp hpl hk
      have hbest := nearF_best l kind x y l.length 0 (-1) (by omega) (by omega) (by omega) (fun j j0 j1 _ => by omega)
      simp only [if_pos c0]
      by_cases g : nearF l kind x y l.length 0 (-1) < 0
      · rw [if_pos g] at hn
        have hr := hneg g
        have hK : K = 0 := congrArg (fun z => z.1) hn
        have hd : d = 0 := congrArg (fun z => z.2.1) hn
        have ho : one = 4 := congrArg (fun z => z.2.2) hn
        have hr : r = 100000 := hr
        subst hK hd ho hr
        refine sites_loop l hp kind x y hpl 100000 0 0 4 ?_ (by omega) (fun j j0 j1 hj => ?_) l.length 0 (by omega) (by omega)
        · simp only [if_true]
          exact Ev.now _
        · have := (hbest j j0 (by omega) hj).1
          omega
      · rw [if_neg g] at hn
        have hr := hpos g
        have hK : K = nearF l kind x y l.length 0 (-1) := congrArg (fun z => z.1) hn
        have hd : d = sqAt l x y (nearF l kind x y l.length 0 (-1)) := congrArg (fun z => z.2.1) hn
        have ho : one = 0 := congrArg (fun z => z.2.2) hn
        have r0 : 0 ≤ r := hr.1
        have r1 : r ≤ 100000 := hr.2.1
        have r2 : r * r ≤ sqAt l x y (nearF l kind x y l.length 0 (-1)) := hr.2.2.1
        have r3 : r = 100000 ∨ sqAt l x y (nearF l kind x y l.length 0 (-1)) < (r + 1) * (r + 1) := hr.2.2.2
        have hq2 : 0 ≤ (r + 1) * (r + 1) ∧ (r + 1) * (r + 1) ≤ 100001 * 100001 := ⟨Int.mul_nonneg (by omega) (by omega), Int.mul_self_le_mul_self (by omega) (by omega)⟩
        subst ho
        refine sites_loop l hp kind x y hpl r K d 0 ?_ ⟨r0, r1⟩ (fun j j0 j1 hj => ?_) l.length 0 (by omega) (by omega)
        · simp only [if_neg (show ¬ (0 : Int) = 4 by decide), if_true, w64 (n := r + 1) (by omega), w64 (n := (r + 1) * (r + 1)) (by omega)]
          by_cases c4 : r = 100000
          · simp only [if_pos c4]
            exact Ev.now _
          · simp only [if_neg c4]
            refine Ev_some (decide_eq_true ?_)
            rcases r3 with r3 | r3
            · exact absurd r3 c4
            · omega
        · have hb2 := hbest j j0 (by omega) hj
          rw [hd, hK]
          exact ⟨hb2.2.1, by omega, fun e => hb2.2.2 e.symm⟩
    · simp only [if_neg c0]
      exact Ev.now _
end Go.Proofs.Ytffnhobhpfnimaa.Pure
