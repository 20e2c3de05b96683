/- PureFnExactOverlappingAreas of the law FnExactOverlappingAreas: taken over, declaration by declaration, as far as the law leans on it (the words and the printed functions are the kit's own print). No condition but what each says. -/
import Derived.Test.YtedcdhnbceaaeaaZFnExactOverlappingAreasav
import Derived.Test.YtedcdhnbceaaeaaZFnExactOverlappingAreasax
import Derived.Test.YtedcdhnbceaaeaaZFnExactOverlappingAreasay
import Derived.Test.YtedcdhnbceaaeaaZFnExactOverlappingAreasaz
import Derived.Test.YtedcdhnbceaaeaaZFnExactOverlappingAreasbc
import Derived.Test.YtedcdhnbceaaeaaZFnExactOverlappingAreasba
namespace Go.Proofs.Ytedcdhnbceaaeaa.Pure
open Go.RowKit Go.Proofs.Ytedcdhnbceaaeaa.PFnExactOverlappingAreas Go.Proofs.YtedcdhnbceaaeaaW.PrintWords Go.Proofs.YtedcdhnbceaaeaaW.PrintLast Go.Proofs.Ytedcdhnbceaaeaa.Opening
set_option linter.unusedVariables false
set_option linter.unusedSimpArgs false
theorem w64 {n : Int} (h : -9223372036854775808 ≤ n ∧ n ≤ 9223372036854775807) : wrap64 n = n := by
  unfold wrap64
  omega
theorem dec_and {p q : Prop} [Decidable p] [Decidable q] : (if decide p = true then some (decide q) else some false) = some (decide (p ∧ q)) := by
  by_cases h : p <;> simp [h]
theorem l01In_eq (a b c : Int) : spec_l01In.f a b c = some (decide (b ≤ a ∧ a ≤ c)) := by
  unfold spec_l01In.f
  by_cases h : b ≤ a <;> simp [h]
theorem within_eq (a b c : Int) : impl_within.f a b c = some (decide (b ≤ a ∧ a ≤ c)) := by
  unfold impl_within.f
  by_cases h : b ≤ a <;> simp [h]
theorem drop_cons {α : Type} {l : List α} {i : Int} {a : α} {s : List α} (z : α) (h0 : 0 ≤ i) (h : l.drop i.toNat = a :: s) : i < l.length ∧ l.getD i.toNat z = a ∧ l.drop (i + 1).toNat = s := by
  have hlt : i.toNat < l.length := by
    rcases Nat.lt_or_ge i.toNat l.length with h1 | h1
    · exact h1
    · rw [List.drop_eq_nil_of_le h1] at h; cases h
  rw [List.drop_eq_getElem_cons hlt] at h
  injection h with h1 h2
  refine ⟨by omega, ?_, ?_⟩
  · rw [List.getD_eq_getElem?_getD, List.getElem?_eq_getElem hlt]; exact h1
  · rw [show (i + 1).toNat = i.toNat + 1 by omega]; exact h2
theorem drop_nil {α : Type} {l : List α} {i : Int} (h0 : 0 ≤ i) (h : l.drop i.toNat = []) : ¬ i < (l.length : Int) := by
  have := List.drop_eq_nil_iff.1 h
  omega
theorem Ev_shift {α : Type} {g : Nat → Option α} {r : α} (h : Ev (fun k => g (k + 1)) r) : Ev g r := Ev.step (fun _ => rfl) h
theorem Ev_both {α β : Type} {g : Nat → Option α} {f : Nat → Option β} {r : α} {q : β} (h1 : Ev g r) (h2 : Ev f q) : ∃ K, ∀ k, K ≤ k → g k = some r ∧ f k = some q := by
  obtain ⟨K, h1⟩ := h1
  obtain ⟨K', h2⟩ := h2
  exact ⟨max K K', fun k hk => ⟨h1 k (by omega), h2 k (by omega)⟩⟩
def PPlace (x y : Int) : Prop := 0 ≤ x ∧ x ≤ 100000 ∧ 0 ≤ y ∧ y ≤ 100000
instance (x y : Int) : Decidable (PPlace x y) := by unfold PPlace; infer_instance
def PArea (k x y w d : Int) : Prop := 0 ≤ k ∧ k ≤ 3 ∧ 0 ≤ x ∧ x ≤ 100000 ∧ 0 ≤ y ∧ y ≤ 100000 ∧ 1 ≤ w ∧ w ≤ 100000 - x ∧ 1 ≤ d ∧ d ≤ 100000 - y
instance (k x y w d : Int) : Decidable (PArea k x y w d) := by unfold PArea; infer_instance
theorem spec_place_eq (x y : Int) : spec_l15Place.f x y = some (decide (PPlace x y)) := by
  unfold spec_l15Place.f PPlace
  simp only [l01In_eq, Option.bind_some]
  rw [dec_and]
  congr 2
  exact propext ⟨fun h => by omega, fun h => by omega⟩
theorem impl_place_eq (x y : Int) : impl_isPlace.f x y = some (decide (PPlace x y)) := by
  unfold impl_isPlace.f PPlace
  simp only [within_eq, Option.bind_some]
  rw [dec_and]
  congr 2
  exact propext ⟨fun h => by omega, fun h => by omega⟩
theorem impl_isKind_eq (k : Int) : impl_isKind.f k = some (decide (0 ≤ k ∧ k ≤ 3)) := by
  unfold impl_isKind.f
  rw [within_eq]; rfl
theorem spec_IsArea_eq (k x y w d : Int) : spec_IsArea.f k x y w d = some (decide (PArea k x y w d)) := by
  unfold spec_IsArea.f
  simp only [l01In_eq, spec_place_eq, Option.bind_some]
  by_cases h1 : 0 ≤ k ∧ k ≤ 3
  · rw [if_pos (decide_eq_true h1)]
    by_cases h2 : PPlace x y
    · rw [if_pos (decide_eq_true h2)]
      unfold PPlace at h2
      rw [w64 (by omega), w64 (by omega), dec_and]
      congr 2
      unfold PArea
      exact propext ⟨fun h => by omega, fun h => by omega⟩
    · rw [if_neg (by simpa using h2), decide_eq_false (fun h => h2 (by unfold PArea at h; unfold PPlace; omega))]
  · rw [if_neg (by simpa using h1), decide_eq_false (fun h => h1 (by unfold PArea at h; omega))]
theorem impl_IsArea_eq (k x y w d : Int) : impl_IsArea.f k x y w d = some (decide (PArea k x y w d)) := by
  unfold impl_IsArea.f
  simp only [within_eq, impl_isKind_eq, impl_place_eq, Option.bind_some]
  by_cases h1 : 0 ≤ k ∧ k ≤ 3
  · rw [if_pos (decide_eq_true h1)]
    by_cases h2 : PPlace x y
    · rw [if_pos (decide_eq_true h2)]
      unfold PPlace at h2
      rw [w64 (by omega), w64 (by omega), dec_and]
      congr 2
      unfold PArea
      exact propext ⟨fun h => by omega, fun h => by omega⟩
    · rw [if_neg (by simpa using h2), decide_eq_false (fun h => h2 (by unfold PArea at h; unfold PPlace; omega))]
  · rw [if_neg (by simpa using h1), decide_eq_false (fun h => h1 (by unfold PArea at h; omega))]
def PSite (l : List S83) : Prop := l.length ≤ 10 ∧ ∀ a ∈ l, PArea a.f0 a.f1 a.f2 a.f3 a.f4
instance (l : List S83) : Decidable (PSite l) := by unfold PSite; infer_instance
theorem spec_IsSite_l0 (l : List S83) (hn : l.length ≤ 140737488351232) : ∀ (s : List S83) (i : Int) (k : Nat), 0 ≤ i → l.drop i.toNat = s → s.length < k → spec_IsSite.l0 k l i = some (decide (l.length ≤ 10 ∧ ∀ a ∈ s, PArea a.f0 a.f1 a.f2 a.f3 a.f4))
  | [], i, k, h0, h, hk => by
    obtain ⟨k, rfl⟩ : ∃ m, k = m + 1 := ⟨k - 1, by omega⟩
    simp only [spec_IsSite.l0]
    rw [if_neg (drop_nil h0 h)]
    congr 2
    simp
    omega
  | a :: s, i, k, h0, h, hk => by
    obtain ⟨k, rfl⟩ : ∃ m, k = m + 1 := ⟨k - 1, by simp at hk; omega⟩
    obtain ⟨h1, h2, h3⟩ := drop_cons z83 h0 h
    have h2' : rd_T83 l i = a := h2
    simp only [spec_IsSite.l0]
    rw [if_pos h1, if_pos h0, h2', spec_IsArea_eq, Option.bind_some]
    by_cases hp : PArea a.f0 a.f1 a.f2 a.f3 a.f4
    · rw [if_pos (decide_eq_true hp), w64 (by omega), spec_IsSite_l0 l hn s (i + 1) k (by omega) h3 (by simpa using hk)]
      congr 2
      simp [hp]
    · rw [if_neg (by simpa using hp)]
      congr 1
      simp [hp]
theorem spec_IsSite_f (l : List S83) (hn : l.length ≤ 140737488351232) (k : Nat) (hk : l.length < k) : spec_IsSite.f k l = some (decide (PSite l)) := by
  unfold spec_IsSite.f PSite
  exact spec_IsSite_l0 l hn l 0 k (by omega) rfl hk
theorem impl_IsSite_l0 (l : List S83) (hn : l.length ≤ 140737488351232) : ∀ (s : List S83) (i : Int) (k : Nat), 0 ≤ i → l.drop i.toNat = s → s.length < k → impl_IsSite.l0 k l l.length i = some (decide (∀ a ∈ s, PArea a.f0 a.f1 a.f2 a.f3 a.f4))
  | [], i, k, h0, h, hk => by
    obtain ⟨k, rfl⟩ : ∃ m, k = m + 1 := ⟨k - 1, by omega⟩
    simp only [impl_IsSite.l0]
    rw [if_neg (drop_nil h0 h)]
    simp
  | a :: s, i, k, h0, h, hk => by
    obtain ⟨k, rfl⟩ : ∃ m, k = m + 1 := ⟨k - 1, by simp at hk; omega⟩
    obtain ⟨h1, h2, h3⟩ := drop_cons z83 h0 h
    have h2' : rd_T83 l i = a := h2
    simp only [impl_IsSite.l0]
    rw [if_pos h1, if_pos h0, if_pos h1, h2', impl_IsArea_eq, Option.bind_some]
    by_cases hp : PArea a.f0 a.f1 a.f2 a.f3 a.f4
    · rw [if_pos (decide_eq_true hp), w64 (by omega), impl_IsSite_l0 l hn s (i + 1) k (by omega) h3 (by simpa using hk)]
      congr 2
      simp [hp]
    · rw [if_neg (by simpa using hp)]
      congr 1
      simp [hp]
theorem impl_IsSite_f (l : List S83) (hn : l.length ≤ 140737488351232) (k : Nat) (hk : l.length < k) : impl_IsSite.f k l = some (decide (PSite l)) := by
  unfold impl_IsSite.f
  rw [impl_IsSite_l0 l hn l 0 k (by omega) rfl hk]
  by_cases h : (l.length : Int) > 10
  · rw [if_pos h, decide_eq_false (p := PSite l) (fun hh => by have := hh.1; omega)]
  · rw [if_neg h]
    congr 1
    exact decide_eq_decide.2 ⟨fun hh => (⟨by omega, hh⟩ : PSite l), fun hh => hh.2⟩
theorem spec_IsSite_ev (l : List S83) (hn : l.length ≤ 140737488351232) : Ev (fun k => spec_IsSite.f k l) (decide (PSite l)) := ⟨l.length + 1, fun k hk => spec_IsSite_f l hn k (by omega)⟩
theorem impl_IsSite_ev (l : List S83) (hn : l.length ≤ 140737488351232) : Ev (fun k => impl_IsSite.f k l) (decide (PSite l)) := ⟨l.length + 1, fun k hk => impl_IsSite_f l hn k (by omega)⟩
theorem area_at {l : List S83} (h : PSite l) {i : Int} (h0 : 0 ≤ i) (h1 : i < l.length) : PArea (rd_T83 l i).f0 (rd_T83 l i).f1 (rd_T83 l i).f2 (rd_T83 l i).f3 (rd_T83 l i).f4 := by
  have hlt : i.toNat < l.length := by omega
  have e : rd_T83 l i = l[i.toNat] := by
    show l.getD i.toNat _ = _
    rw [List.getD_eq_getElem?_getD, List.getElem?_eq_getElem hlt]
    rfl
  rw [e]
  exact h.2 _ (List.getElem_mem hlt)
/-- Two areas overlap. -/
def ovP (l : List S83) (i j : Int) : Prop := (rd_T83 l i).f1 ≤ (rd_T83 l j).f1 + (rd_T83 l j).f3 ∧ (rd_T83 l j).f1 ≤ (rd_T83 l i).f1 + (rd_T83 l i).f3 ∧ (rd_T83 l i).f2 ≤ (rd_T83 l j).f2 + (rd_T83 l j).f4 ∧ (rd_T83 l j).f2 ≤ (rd_T83 l i).f2 + (rd_T83 l i).f4
instance (l : List S83) (i j : Int) : Decidable (ovP l i j) := by unfold ovP; infer_instance
/-- The pairs of one area with those behind it. -/
def ovF1 (l : List S83) (i : Int) : Nat → Int → List (List Int)
  | 0, _ => []
  | d + 1, j => if ovP l i j then [i, j] :: ovF1 l i d (j + 1) else ovF1 l i d (j + 1)
def ovF0 (l : List S83) : Nat → Int → List (List Int)
  | 0, _ => []
  | d + 1, i => ovF1 l i d (i + 1) ++ ovF0 l d (i + 1)
theorem ovF1_mem (l : List S83) (i : Int) : ∀ (d : Nat) (j : Int) (r : List Int), r ∈ ovF1 l i d j ↔ ∃ x : Int, j ≤ x ∧ x < j + d ∧ ovP l i x ∧ r = [i, x]
  | 0, j, r => by
    simp [ovF1]
    intro x h1 h2
    omega
  | d + 1, j, r => by
    have ih := ovF1_mem l i d (j + 1) r
    unfold ovF1
    by_cases c : ovP l i j
    · rw [if_pos c, List.mem_cons, ih]
      constructor
      · rintro (e | ⟨x, h1, h2, h3, h4⟩)
        · exact ⟨j, by omega, by omega, c, e⟩
        · exact ⟨x, by omega, by omega, h3, h4⟩
      · rintro ⟨x, h1, h2, h3, h4⟩
        by_cases e : x = j
        · rw [e] at h4
          exact .inl h4
        · exact .inr ⟨x, by omega, by omega, h3, h4⟩
    · rw [if_neg c, ih]
      constructor
      · rintro ⟨x, h1, h2, h3, h4⟩
        exact ⟨x, by omega, by omega, h3, h4⟩
      · rintro ⟨x, h1, h2, h3, h4⟩
        by_cases e : x = j
        · rw [e] at h3
          exact absurd h3 c
        · exact ⟨x, by omega, by omega, h3, h4⟩
theorem ovF0_mem (l : List S83) : ∀ (d : Nat) (i : Int) (r : List Int), r ∈ ovF0 l d i ↔ ∃ a x : Int, i ≤ a ∧ a < x ∧ x < i + d ∧ ovP l a x ∧ r = [a, x]
  | 0, i, r => by
    simp [ovF0]
    intro a h1 x h2 h3
    omega
  | d + 1, i, r => by
    unfold ovF0
    rw [List.mem_append, ovF1_mem, ovF0_mem l d (i + 1)]
    constructor
    · rintro (⟨x, h1, h2, h3, h4⟩ | ⟨a, x, h1, h2, h3, h4, h5⟩)
      · exact ⟨i, x, by omega, by omega, by omega, h3, h4⟩
      · exact ⟨a, x, by omega, h2, by omega, h4, h5⟩
    · rintro ⟨a, x, h1, h2, h3, h4, h5⟩
      by_cases e : a = i
      · rw [e] at h2 h4 h5
        exact .inl ⟨x, by omega, by omega, h4, h5⟩
      · exact .inr ⟨a, x, by omega, h2, by omega, h4, h5⟩
theorem ovF1_length (l : List S83) (i : Int) : ∀ (d : Nat) (j : Int), (ovF1 l i d j).length ≤ d
  | 0, _ => Nat.le_refl _
  | d + 1, j => by
    have := ovF1_length l i d (j + 1)
    unfold ovF1
    split
    · simp only [List.length_cons]
      omega
    · omega
theorem ovF0_length (l : List S83) : ∀ (d : Nat) (i : Int), (ovF0 l d i).length ≤ d * d
  | 0, _ => Nat.le_refl _
  | d + 1, i => by
    have h1 := ovF0_length l d (i + 1)
    have h2 := ovF1_length l i d (i + 1)
    unfold ovF0
    rw [List.length_append]
    have : (d + 1) * (d + 1) = d * d + 2 * d + 1 := by rw [Nat.add_mul, Nat.mul_add]; omega
    omega
theorem spec_over_l1 {l : List S83} (h : PSite l) {i : Int} (i0 : 0 ≤ i) (i1 : i < l.length) : ∀ (d : Nat) (j : Int) (out : List (List Int)), i < j → j + d = l.length → out.length + d ≤ 1000 → ∀ r, Ev (fun k => spec_OverlappingAreas.l0 k l (out ++ ovF1 l i d j) (i + 1)) r → Ev (fun k => spec_OverlappingAreas.l1 k l out i j) r
  | 0, j, out, hij, hd, ho, r, hr => by
    have hl := h.1
    refine Ev_shift ?_
    simp only [spec_OverlappingAreas.l1, if_neg (show ¬ j < (l.length : Int) by omega), w64 (n := i + 1) (by omega)]
    simpa [ovF1] using hr
  | d + 1, j, out, hij, hd, ho, r, hr => by
    have hl := h.1
    have ai := area_at h i0 i1
    have aj := area_at h (show 0 ≤ j by omega) (show j < l.length by omega)
    unfold PArea at ai aj
    refine Ev_shift ?_
    simp only [spec_OverlappingAreas.l1, if_pos (show j < (l.length : Int) by omega), if_pos i0, if_pos i1, if_pos (show 0 ≤ j by omega), w64 (n := (rd_T83 l j).f1 + (rd_T83 l j).f3) (by omega), w64 (n := (rd_T83 l i).f1 + (rd_T83 l i).f3) (by omega), w64 (n := (rd_T83 l j).f2 + (rd_T83 l j).f4) (by omega), w64 (n := (rd_T83 l i).f2 + (rd_T83 l i).f4) (by omega), w64 (n := j + 1) (by omega)]
    unfold ovF1 at hr
    by_cases c : ovP l i j
    · rw [if_pos c] at hr
      have c' := c
      unfold ovP at c'
      simp only [if_pos c'.1, if_pos c'.2.1, if_pos c'.2.2.1, if_pos c'.2.2.2, if_pos (show out.length < 5864062014805 by omega)]
      refine spec_over_l1 h i0 i1 d (j + 1) (out ++ [[i, j]]) (by omega) (by omega) (by simp; omega) r ?_
      simpa using hr
    · rw [if_neg c] at hr
      have next := spec_over_l1 h i0 i1 d (j + 1) out (by omega) (by omega) (by omega) r hr
      by_cases c1 : (rd_T83 l i).f1 ≤ (rd_T83 l j).f1 + (rd_T83 l j).f3
      · by_cases c2 : (rd_T83 l j).f1 ≤ (rd_T83 l i).f1 + (rd_T83 l i).f3
        · by_cases c3 : (rd_T83 l i).f2 ≤ (rd_T83 l j).f2 + (rd_T83 l j).f4
          · simp only [if_pos c1, if_pos c2, if_pos c3, if_neg (fun c4 => c ⟨c1, c2, c3, c4⟩)]
            exact next
          · simp only [if_pos c1, if_pos c2, if_neg c3]
            exact next
        · simp only [if_pos c1, if_neg c2]
          exact next
      · simp only [if_neg c1]
        exact next
theorem spec_over_l0 {l : List S83} (h : PSite l) : ∀ (d : Nat) (i : Int) (out : List (List Int)), 0 ≤ i → i + d = l.length → out.length + 10 * d ≤ 1000 → Ev (fun k => spec_OverlappingAreas.l0 k l out i) (out ++ ovF0 l d i, 0)
  | 0, i, out, h0, hd, ho => by
    refine Ev_shift ?_
    simp only [spec_OverlappingAreas.l0, if_neg (show ¬ i < (l.length : Int) by omega), ovF0, List.append_nil]
    exact Ev.now _
  | d + 1, i, out, h0, hd, ho => by
    have hl := h.1
    refine Ev_shift ?_
    simp only [spec_OverlappingAreas.l0, if_pos (show i < (l.length : Int) by omega), w64 (n := i + 1) (by omega)]
    have h1 := ovF1_length l i d (i + 1)
    refine spec_over_l1 h h0 (by omega) d (i + 1) out (by omega) (by omega) (by omega) _ ?_
    have := spec_over_l0 h d (i + 1) (out ++ ovF1 l i d (i + 1)) (by omega) (by omega) (by simp; omega)
    simpa only [ovF0, List.append_assoc] using this
theorem impl_over_l1 {l : List S83} (h : PSite l) {i : Int} (i0 : 0 ≤ i) (i1 : i < l.length) : ∀ (d : Nat) (j : Int) (out : List (List Int)), i < j → j + d = l.length → out.length + d ≤ 1000 → ∀ r, Ev (fun k => impl_OverlappingAreas.l0 k l (out ++ ovF1 l i d j) l l.length (i + 1)) r → Ev (fun k => impl_OverlappingAreas.l1 k l out i j l l.length i (rd_T83 l i).f0 (rd_T83 l i).f1 (rd_T83 l i).f2 (rd_T83 l i).f3 (rd_T83 l i).f4) r
  | 0, j, out, hij, hd, ho, r, hr => by
    have hl := h.1
    refine Ev_shift ?_
    simp only [impl_OverlappingAreas.l1, if_neg (show ¬ j < (l.length : Int) by omega), w64 (n := i + 1) (by omega)]
    simpa [ovF1] using hr
  | d + 1, j, out, hij, hd, ho, r, hr => by
    have hl := h.1
    have ai := area_at h i0 i1
    have aj := area_at h (show 0 ≤ j by omega) (show j < l.length by omega)
    unfold PArea at ai aj
    refine Ev_shift ?_
    simp only [impl_OverlappingAreas.l1, if_pos (show j < (l.length : Int) by omega), if_pos (show 0 ≤ j by omega), w64 (n := (rd_T83 l j).f1 + (rd_T83 l j).f3) (by omega), w64 (n := (rd_T83 l i).f1 + (rd_T83 l i).f3) (by omega), w64 (n := (rd_T83 l j).f2 + (rd_T83 l j).f4) (by omega), w64 (n := (rd_T83 l i).f2 + (rd_T83 l i).f4) (by omega), w64 (n := j + 1) (by omega)]
    unfold ovF1 at hr
    by_cases c : ovP l i j
    · rw [if_pos c] at hr
      have c' := c
      unfold ovP at c'
      simp only [if_pos c'.1, if_pos c'.2.1, if_pos c'.2.2.1, if_pos c'.2.2.2, if_pos (show out.length < 5864062014805 by omega)]
      refine impl_over_l1 h i0 i1 d (j + 1) (out ++ [[i, j]]) (by omega) (by omega) (by simp; omega) r ?_
      simpa using hr
    · rw [if_neg c] at hr
      have next := impl_over_l1 h i0 i1 d (j + 1) out (by omega) (by omega) (by omega) r hr
      by_cases c1 : (rd_T83 l i).f1 ≤ (rd_T83 l j).f1 + (rd_T83 l j).f3
      · by_cases c2 : (rd_T83 l j).f1 ≤ (rd_T83 l i).f1 + (rd_T83 l i).f3
        · by_cases c3 : (rd_T83 l i).f2 ≤ (rd_T83 l j).f2 + (rd_T83 l j).f4
          · simp only [if_pos c1, if_pos c2, if_pos c3, if_neg (fun c4 => c ⟨c1, c2, c3, c4⟩)]
            exact next
          · simp only [if_pos c1, if_pos c2, if_neg c3]
            exact next
        · simp only [if_pos c1, if_neg c2]
          exact next
      · simp only [if_neg c1]
        exact next
theorem impl_over_l0 {l : List S83} (h : PSite l) : ∀ (d : Nat) (i : Int) (out : List (List Int)), 0 ≤ i → i + d = l.length → out.length + 10 * d ≤ 1000 → Ev (fun k => impl_OverlappingAreas.l0 k l out l l.length i) (out ++ ovF0 l d i, 0)
  | 0, i, out, h0, hd, ho => by
    refine Ev_shift ?_
    simp only [impl_OverlappingAreas.l0, if_neg (show ¬ i < (l.length : Int) by omega), ovF0, List.append_nil]
    exact Ev.now _
  | d + 1, i, out, h0, hd, ho => by
    have hl := h.1
    refine Ev_shift ?_
    simp only [impl_OverlappingAreas.l0, if_pos (show i < (l.length : Int) by omega), if_pos h0, w64 (n := i + 1) (by omega)]
    have h1 := ovF1_length l i d (i + 1)
    refine impl_over_l1 h h0 (by omega) d (i + 1) out (by omega) (by omega) (by omega) _ ?_
    have := impl_over_l0 h d (i + 1) (out ++ ovF1 l i d (i + 1)) (by omega) (by omega) (by simp; omega)
    simpa only [ovF0, List.append_assoc] using this
theorem over_val (l : List S83) (hl : l.length ≤ 1000000) : ∃ q : List (List Int) × Int, Ev (fun k => spec_OverlappingAreas.f k l) q ∧ Ev (fun k => impl_OverlappingAreas.f k l) q ∧ q.1.length ≤ 100 ∧ (∀ x ∈ q.1, x.length = 2) ∧ (q.2 = 0 → PSite l ∧ q.1 = ovF0 l l.length 0) := by
  have hs := spec_IsSite_ev l (by omega)
  have hi := impl_IsSite_ev l (by omega)
  by_cases h : PSite l
  · have hlen := ovF0_length l l.length 0
    have h10 := h.1
    have hm := Nat.mul_le_mul h10 h10
    refine ⟨(ovF0 l l.length 0, 0), ?_, ?_, by show List.length (ovF0 _ _ _) ≤ _; omega, fun x hx => ?_, fun _ => ⟨h, rfl⟩⟩
    · unfold spec_OverlappingAreas.f
      refine Ev.bind hs ?_
      simp only [decide_eq_true h, if_true]
      have := spec_over_l0 h l.length 0 [] (by omega) (by omega) (by simp; omega)
      simpa using this
    · unfold impl_OverlappingAreas.f
      refine Ev.bind hi ?_
      simp only [decide_eq_true h, if_true]
      have := impl_over_l0 h l.length 0 [] (by omega) (by omega) (by simp; omega)
      simpa using this
    · obtain ⟨a, b, _, _, _, _, e⟩ := (ovF0_mem l l.length 0 x).1 hx
      rw [e]
      rfl
  · refine ⟨([], 1), ?_, ?_, by simp, by simp, fun e => absurd e (by decide)⟩
    · unfold spec_OverlappingAreas.f
      refine Ev.bind hs ?_
      simp only [decide_eq_false h, Bool.false_eq_true, if_false]
      exact Ev.now _
    · unfold impl_OverlappingAreas.f
      refine Ev.bind hi ?_
      simp only [decide_eq_false h, Bool.false_eq_true, if_false]
      exact Ev.now _
theorem agree_OverlappingAreas (m0 : List S83) (hn0 : m0.length ≤ 1000000) (hq0 : ∀ x ∈ m0, (I64 x.f0 ∧ I64 x.f1 ∧ I64 x.f2 ∧ I64 x.f3 ∧ I64 x.f4)) : ∃ (K : Nat) (r1 : List (List Int)) (r2 : Int), (r1.length ≤ 10000000 ∧ ∀ x ∈ r1, x.length = 2) ∧ ∀ k, K ≤ k → spec_OverlappingAreas.f k m0 = some (r1, r2) ∧ impl_OverlappingAreas.f k m0 = some (r1, r2) := by
  obtain ⟨⟨t, c⟩, es, ei, hl, h2, _⟩ := over_val m0 hn0
  obtain ⟨K, hk⟩ := Ev_both es ei
  exact ⟨K, t, c, ⟨by simp only at hl; omega, h2⟩, hk⟩
end Go.Proofs.Ytedcdhnbceaaeaa.Pure
