/- The plain law of FnExactSquareTo: what the printed functions compute, without Go and memory. No condition but the bounds that stand in it. -/
import Derived.Test.YtfplnebeojdgcaaPFnExactSquareTox0
import Derived.Test.YtfplnebeojdgcaaPFnExactSquareTox1
import Derived.Test.YtfplnebeojdgcaaPFnExactSquareTox2
import Derived.Test.YtfplnebeojdgcaaOpen
namespace Go.Proofs.Ytfplnebeojdgcaa.Pure
open Go.RowKit Go.Proofs.Ytfplnebeojdgcaa.PFnExactSquareTo Go.Proofs.YtfplnebeojdgcaaW.PrintWords Go.Proofs.YtfplnebeojdgcaaW.PrintLast Go.Proofs.Ytfplnebeojdgcaa.Opening
set_option linter.unusedVariables false
set_option linter.unusedSimpArgs false
theorem w64 {n : Int} (h : -9223372036854775808 ≤ n ∧ n ≤ 9223372036854775807) : wrap64 n = n := by
  unfold wrap64
  omega
theorem dec_and {p q : Prop} [Decidable p] [Decidable q] : (if decide p = true then some (decide q) else some false) = some (decide (p ∧ q)) := by
  by_cases h : p <;> simp [h]
theorem l01In_eq (a b c : Int) : spec_l01In.f a b c = some (decide (b ≤ a ∧ a ≤ c)) := by
  unfold spec_l01In.f
  by_cases h : b ≤ a <;> simp [h]
theorem within_eq (a b c : Int) : impl_within.f a b c = some (decide (b ≤ a ∧ a ≤ c)) := by
  unfold impl_within.f
  by_cases h : b ≤ a <;> simp [h]
theorem drop_cons {α : Type} {l : List α} {i : Int} {a : α} {s : List α} (z : α) (h0 : 0 ≤ i) (h : l.drop i.toNat = a :: s) : i < l.length ∧ l.getD i.toNat z = a ∧ l.drop (i + 1).toNat = s := by
  have hlt : i.toNat < l.length := by
    rcases Nat.lt_or_ge i.toNat l.length with h1 | h1
    · exact h1
    · rw [List.drop_eq_nil_of_le h1] at h; cases h
  rw [List.drop_eq_getElem_cons hlt] at h
  injection h with h1 h2
  refine ⟨by omega, ?_, ?_⟩
  · rw [List.getD_eq_getElem?_getD, List.getElem?_eq_getElem hlt]; exact h1
  · rw [show (i + 1).toNat = i.toNat + 1 by omega]; exact h2
theorem drop_nil {α : Type} {l : List α} {i : Int} (h0 : 0 ≤ i) (h : l.drop i.toNat = []) : ¬ i < (l.length : Int) := by
  have := List.drop_eq_nil_iff.1 h
  omega
def PPlace (x y : Int) : Prop := 0 ≤ x ∧ x ≤ 100000 ∧ 0 ≤ y ∧ y ≤ 100000
instance (x y : Int) : Decidable (PPlace x y) := by unfold PPlace; infer_instance
def PArea (k x y w d : Int) : Prop := 0 ≤ k ∧ k ≤ 3 ∧ 0 ≤ x ∧ x ≤ 100000 ∧ 0 ≤ y ∧ y ≤ 100000 ∧ 1 ≤ w ∧ w ≤ 100000 - x ∧ 1 ≤ d ∧ d ≤ 100000 - y
instance (k x y w d : Int) : Decidable (PArea k x y w d) := by unfold PArea; infer_instance
theorem spec_place_eq (x y : Int) : spec_l15Place.f x y = some (decide (PPlace x y)) := by
  unfold spec_l15Place.f PPlace
  simp only [l01In_eq, Option.bind_some]
  rw [dec_and]
  congr 2
  exact propext ⟨fun h => by omega, fun h => by omega⟩
theorem impl_place_eq (x y : Int) : impl_isPlace.f x y = some (decide (PPlace x y)) := by
  unfold impl_isPlace.f PPlace
  simp only [within_eq, Option.bind_some]
  rw [dec_and]
  congr 2
  exact propext ⟨fun h => by omega, fun h => by omega⟩
theorem impl_isKind_eq (k : Int) : impl_isKind.f k = some (decide (0 ≤ k ∧ k ≤ 3)) := by
  unfold impl_isKind.f
  rw [within_eq]; rfl
theorem spec_IsArea_eq (k x y w d : Int) : spec_IsArea.f k x y w d = some (decide (PArea k x y w d)) := by
  unfold spec_IsArea.f
  simp only [l01In_eq, spec_place_eq, Option.bind_some]
  by_cases h1 : 0 ≤ k ∧ k ≤ 3
  · rw [if_pos (decide_eq_true h1)]
    by_cases h2 : PPlace x y
    · rw [if_pos (decide_eq_true h2)]
      unfold PPlace at h2
      rw [w64 (by omega), w64 (by omega), dec_and]
      congr 2
      unfold PArea
      exact propext ⟨fun h => by omega, fun h => by omega⟩
    · rw [if_neg (by simpa using h2), decide_eq_false (fun h => h2 (by unfold PArea at h; unfold PPlace; omega))]
  · rw [if_neg (by simpa using h1), decide_eq_false (fun h => h1 (by unfold PArea at h; omega))]
theorem impl_IsArea_eq (k x y w d : Int) : impl_IsArea.f k x y w d = some (decide (PArea k x y w d)) := by
  unfold impl_IsArea.f
  simp only [within_eq, impl_isKind_eq, impl_place_eq, Option.bind_some]
  by_cases h1 : 0 ≤ k ∧ k ≤ 3
  · rw [if_pos (decide_eq_true h1)]
    by_cases h2 : PPlace x y
    · rw [if_pos (decide_eq_true h2)]
      unfold PPlace at h2
      rw [w64 (by omega), w64 (by omega), dec_and]
      congr 2
      unfold PArea
      exact propext ⟨fun h => by omega, fun h => by omega⟩
    · rw [if_neg (by simpa using h2), decide_eq_false (fun h => h2 (by unfold PArea at h; unfold PPlace; omega))]
  · rw [if_neg (by simpa using h1), decide_eq_false (fun h => h1 (by unfold PArea at h; omega))]
def PSite (l : List S25) : Prop := l.length ≤ 10 ∧ ∀ a ∈ l, PArea a.f0 a.f1 a.f2 a.f3 a.f4
instance (l : List S25) : Decidable (PSite l) := by unfold PSite; infer_instance
theorem spec_IsSite_l0 (l : List S25) (hn : l.length ≤ 140737488351232) : ∀ (s : List S25) (i : Int) (k : Nat), 0 ≤ i → l.drop i.toNat = s → s.length < k → spec_IsSite.l0 k l i = some (decide (l.length ≤ 10 ∧ ∀ a ∈ s, PArea a.f0 a.f1 a.f2 a.f3 a.f4))
  | [], i, k, h0, h, hk => by
    obtain ⟨k, rfl⟩ : ∃ m, k = m + 1 := ⟨k - 1, by omega⟩
    simp only [spec_IsSite.l0]
    rw [if_neg (drop_nil h0 h)]
    congr 2
    simp
    omega
  | a :: s, i, k, h0, h, hk => by
    obtain ⟨k, rfl⟩ : ∃ m, k = m + 1 := ⟨k - 1, by simp at hk; omega⟩
    obtain ⟨h1, h2, h3⟩ := drop_cons z25 h0 h
    have h2' : rd_T25 l i = a := h2
    simp only [spec_IsSite.l0]
    rw [if_pos h1, if_pos h0, h2', spec_IsArea_eq, Option.bind_some]
    by_cases hp : PArea a.f0 a.f1 a.f2 a.f3 a.f4
    · rw [if_pos (decide_eq_true hp), w64 (by omega), spec_IsSite_l0 l hn s (i + 1) k (by omega) h3 (by simpa using hk)]
      congr 2
      simp [hp]
    · rw [if_neg (by simpa using hp)]
      congr 1
      simp [hp]
theorem spec_IsSite_f (l : List S25) (hn : l.length ≤ 140737488351232) (k : Nat) (hk : l.length < k) : spec_IsSite.f k l = some (decide (PSite l)) := by
  unfold spec_IsSite.f PSite
  exact spec_IsSite_l0 l hn l 0 k (by omega) rfl hk
/-- How far a coordinate is from a range. -/
def PAway (x a w : Int) : Int := max (max 0 (a - x)) (x - a - w)
def PSq (X Y W D x y : Int) : Int := PAway x X W * PAway x X W + PAway y Y D * PAway y Y D
theorem mx_eq (a b : Int) : mx a b = max a b := by
  unfold mx
  omega
theorem PAway_bd {x a w : Int} (h : 0 ≤ x ∧ x ≤ 100000) (ha : 0 ≤ a ∧ a ≤ 100000) (hw : 1 ≤ w ∧ w ≤ 100000 - a) : 0 ≤ PAway x a w ∧ PAway x a w ≤ 100000 := by
  unfold PAway
  omega
theorem sq_bd {d : Int} (h : 0 ≤ d ∧ d ≤ 100000) : 0 ≤ d * d ∧ d * d ≤ 10000000000 := by
  have h1 : d * d ≤ 100000 * d := Int.mul_le_mul_of_nonneg_right h.2 h.1
  have h2 : 0 ≤ d * d := Int.mul_nonneg h.1 h.1
  omega
theorem spec_away_eq {x a w : Int} (h : 0 ≤ x ∧ x ≤ 100000) (ha : 0 ≤ a ∧ a ≤ 100000) (hw : 1 ≤ w ∧ w ≤ 100000 - a) : spec_l15Away.f x a (wrap64 (a + w)) = some (PAway x a w) := by
  unfold spec_l15Away.f PAway
  rw [w64 (n := a + w) (by omega), w64 (n := a - x) (by omega), w64 (n := x - (a + w)) (by omega), mx_eq, mx_eq]
  congr 1
  omega
theorem spec_Square_eq {K X Y W D x y : Int} (hp : PPlace x y) (ha : PPlace X Y) (hw : 1 ≤ W ∧ W ≤ 100000 - X) (hd : 1 ≤ D ∧ D ≤ 100000 - Y) : spec_l15Square.f K X Y W D x y = some (PSq X Y W D x y) := by
  unfold PPlace at *
  unfold spec_l15Square.f PSq
  rw [spec_away_eq (by omega) (by omega) hw, Option.bind_some, spec_away_eq (by omega) (by omega) hd, Option.bind_some]
  have h1 := sq_bd (PAway_bd (x := x) (a := X) (w := W) (by omega) (by omega) hw)
  have h2 := sq_bd (PAway_bd (x := y) (a := Y) (w := D) (by omega) (by omega) hd)
  rw [w64 (n := PAway x X W * PAway x X W) (by omega), w64 (n := PAway y Y D * PAway y Y D) (by omega), w64 (by omega)]
theorem impl_square_eq {K X Y W D x y : Int} (hp : PPlace x y) (ha : PPlace X Y) (hw : 1 ≤ W ∧ W ≤ 100000 - X) (hd : 1 ≤ D ∧ D ≤ 100000 - Y) : impl_squareTo.f K X Y W D x y = some (PSq X Y W D x y) := by
  unfold PPlace at *
  unfold impl_squareTo.f
  rw [w64 (n := X - x) (by omega), w64 (n := x - X) (by omega), w64 (n := x - X - W) (by omega), w64 (n := Y - y) (by omega), w64 (n := y - Y) (by omega), w64 (n := y - Y - D) (by omega)]
  simp only [mx_eq]
  have h1 := sq_bd (PAway_bd (x := x) (a := X) (w := W) (by omega) (by omega) hw)
  have h2 := sq_bd (PAway_bd (x := y) (a := Y) (w := D) (by omega) (by omega) hd)
  show some (wrap64 (wrap64 (PAway x X W * PAway x X W) + wrap64 (PAway y Y D * PAway y Y D))) = some (PSq X Y W D x y)
  rw [w64 (n := PAway x X W * PAway x X W) (by omega), w64 (n := PAway y Y D * PAway y Y D) (by omega), w64 (by omega)]
  rfl
theorem spec_l15Code_f (l : List S25) (hn : l.length ≤ 140737488351232) (k : Nat) (hk : l.length < k) (kind x y : Int) : spec_l15Code.f k l kind x y = some (if PSite l then (if PPlace x y ∧ 0 ≤ kind ∧ kind ≤ 3 then 0 else 2) else 1) := by
  unfold spec_l15Code.f
  rw [spec_IsSite_f l hn k hk, Option.bind_some]
  by_cases h : PSite l
  · rw [if_pos (decide_eq_true h), if_pos h, spec_place_eq, Option.bind_some]
    by_cases h2 : PPlace x y
    · rw [if_pos (decide_eq_true h2), l01In_eq, Option.bind_some]
      by_cases h3 : 0 ≤ kind ∧ kind ≤ 3
      · rw [if_pos (decide_eq_true h3), if_pos ⟨h2, h3⟩]
      · rw [if_neg (by simpa using h3), if_neg (fun h => h3 h.2)]
    · rw [if_neg (by simpa using h2), if_neg (fun h => h2 h.1)]
  · rw [if_neg (by simpa using h), if_neg h]
theorem FnExactSquareTo (a0_0 a0_1 a0_2 a0_3 a0_4 a1 a2 : Int) (q0 : I64 a0_0 ∧ I64 a0_1 ∧ I64 a0_2 ∧ I64 a0_3 ∧ I64 a0_4) (q1 : I64 a1) (q2 : I64 a2) : ∃ k, laws_FnExactSquareTo.f k a0_0 a0_1 a0_2 a0_3 a0_4 a1 a2 = some true := by
  refine ⟨2, ?_⟩
  unfold laws_FnExactSquareTo.f laws_toArea.f spec_SquareTo.f impl_SquareTo.f
  simp only [Option.bind_some]
  rw [spec_l15Code_f _ (by simp) 2 (by simp), impl_IsArea_eq, impl_place_eq]
  simp only [Option.bind_some]
  by_cases h : PArea a0_0 a0_1 a0_2 a0_3 a0_4
  · have hs : PSite [(⟨a0_0, a0_1, a0_2, a0_3, a0_4⟩ : S25)] := ⟨by simp, by simpa using h⟩
    by_cases h2 : PPlace a1 a2
    · have h' := h
      unfold PArea at h'
      have hp : PPlace a0_1 a0_2 := by unfold PPlace; omega
      rw [spec_Square_eq h2 hp (by omega) (by omega), impl_square_eq h2 hp (by omega) (by omega)]
      simp [h, h2, hs]
    · simp [h, h2, hs]
  · have hs : ¬ PSite [(⟨a0_0, a0_1, a0_2, a0_3, a0_4⟩ : S25)] := fun hs => h (by simpa using hs.2)
    simp [h, hs]
end Go.Proofs.Ytfplnebeojdgcaa.Pure
