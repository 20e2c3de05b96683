/- The plain law of FnExactFreeRadius: what the printed functions compute, without Go and memory. No condition but the bounds that stand in it. -/
import Derived.Test.YtffnhobhpfnimaaPFnExactFreeRadiusx0
import Derived.Test.YtffnhobhpfnimaaQFnExactFreeRadiusa
import Derived.Test.YtffnhobhpfnimaaQFnExactFreeRadiusb
import Derived.Test.YtffnhobhpfnimaaQFnExactFreeRadiusc
import Derived.Test.YtffnhobhpfnimaaQFnExactFreeRadiusd
import Derived.Test.YtffnhobhpfnimaaOpen
namespace Go.Proofs.Ytffnhobhpfnimaa.Pure
open Go.RowKit Go.Proofs.Ytffnhobhpfnimaa.PFnExactFreeRadius Go.Proofs.YtffnhobhpfnimaaW.PrintWords Go.Proofs.YtffnhobhpfnimaaW.PrintLast Go.Proofs.Ytffnhobhpfnimaa.Opening
set_option linter.unusedVariables false
set_option linter.unusedSimpArgs false
theorem w64 {n : Int} (h : -9223372036854775808 ≤ n ∧ n ≤ 9223372036854775807) : wrap64 n = n := by
  unfold wrap64
  omega
theorem dec_and {p q : Prop} [Decidable p] [Decidable q] : (if decide p = true then some (decide q) else some false) = some (decide (p ∧ q)) := by
  by_cases h : p <;> simp [h]
theorem l01In_eq (a b c : Int) : spec_l01In.f a b c = some (decide (b ≤ a ∧ a ≤ c)) := by
  unfold spec_l01In.f
  by_cases h : b ≤ a <;> simp [h]
theorem within_eq (a b c : Int) : impl_within.f a b c = some (decide (b ≤ a ∧ a ≤ c)) := by
  unfold impl_within.f
  by_cases h : b ≤ a <;> simp [h]
theorem drop_cons {α : Type} {l : List α} {i : Int} {a : α} {s : List α} (z : α) (h0 : 0 ≤ i) (h : l.drop i.toNat = a :: s) : i < l.length ∧ l.getD i.toNat z = a ∧ l.drop (i + 1).toNat = s := by
  have hlt : i.toNat < l.length := by
    rcases Nat.lt_or_ge i.toNat l.length with h1 | h1
    · exact h1
    · rw [List.drop_eq_nil_of_le h1] at h; cases h
  rw [List.drop_eq_getElem_cons hlt] at h
  injection h with h1 h2
  refine ⟨by omega, ?_, ?_⟩
  · rw [List.getD_eq_getElem?_getD, List.getElem?_eq_getElem hlt]; exact h1
  · rw [show (i + 1).toNat = i.toNat + 1 by omega]; exact h2
theorem drop_nil {α : Type} {l : List α} {i : Int} (h0 : 0 ≤ i) (h : l.drop i.toNat = []) : ¬ i < (l.length : Int) := by
  have := List.drop_eq_nil_iff.1 h
  omega
theorem Ev_shift {α : Type} {g : Nat → Option α} {r : α} (h : Ev (fun k => g (k + 1)) r) : Ev g r := Ev.step (fun _ => rfl) h
theorem Ev_both {α β : Type} {g : Nat → Option α} {f : Nat → Option β} {r : α} {q : β} (h1 : Ev g r) (h2 : Ev f q) : ∃ K, ∀ k, K ≤ k → g k = some r ∧ f k = some q := by
  obtain ⟨K, h1⟩ := h1
  obtain ⟨K', h2⟩ := h2
  exact ⟨max K K', fun k hk => ⟨h1 k (by omega), h2 k (by omega)⟩⟩
theorem Ev_eq {α : Type} {g : Nat → Option α} {r q : α} (h : Ev g r) (e : r = q) : Ev g q := e ▸ h
theorem Ev_some {α : Type} {r q : α} (e : r = q) : Ev (fun _ => some r) q := e ▸ Ev.now r
def PPlace (x y : Int) : Prop := 0 ≤ x ∧ x ≤ 100000 ∧ 0 ≤ y ∧ y ≤ 100000
instance (x y : Int) : Decidable (PPlace x y) := by unfold PPlace; infer_instance
def PArea (k x y w d : Int) : Prop := 0 ≤ k ∧ k ≤ 3 ∧ 0 ≤ x ∧ x ≤ 100000 ∧ 0 ≤ y ∧ y ≤ 100000 ∧ 1 ≤ w ∧ w ≤ 100000 - x ∧ 1 ≤ d ∧ d ≤ 100000 - y
instance (k x y w d : Int) : Decidable (PArea k x y w d) := by unfold PArea; infer_instance
theorem spec_place_eq (x y : Int) : spec_l15Place.f x y = some (decide (PPlace x y)) := by
  unfold spec_l15Place.f PPlace
  simp only [l01In_eq, Option.bind_some]
  rw [dec_and]
  congr 2
  exact propext ⟨fun h => by omega, fun h => by omega⟩
theorem impl_place_eq (x y : Int) : impl_isPlace.f x y = some (decide (PPlace x y)) := by
  unfold impl_isPlace.f PPlace
  simp only [within_eq, Option.bind_some]
  rw [dec_and]
  congr 2
  exact propext ⟨fun h => by omega, fun h => by omega⟩
theorem impl_isKind_eq (k : Int) : impl_isKind.f k = some (decide (0 ≤ k ∧ k ≤ 3)) := by
  unfold impl_isKind.f
  rw [within_eq]; rfl
theorem spec_IsArea_eq (k x y w d : Int) : spec_IsArea.f k x y w d = some (decide (PArea k x y w d)) := by
  unfold spec_IsArea.f
  simp only [l01In_eq, spec_place_eq, Option.bind_some]
  by_cases h1 : 0 ≤ k ∧ k ≤ 3
  · rw [if_pos (decide_eq_true h1)]
    by_cases h2 : PPlace x y
    · rw [if_pos (decide_eq_true h2)]
      unfold PPlace at h2
      rw [w64 (by omega), w64 (by omega), dec_and]
      congr 2
      unfold PArea
      exact propext ⟨fun h => by omega, fun h => by omega⟩
    · rw [if_neg (by simpa using h2), decide_eq_false (fun h => h2 (by unfold PArea at h; unfold PPlace; omega))]
  · rw [if_neg (by simpa using h1), decide_eq_false (fun h => h1 (by unfold PArea at h; omega))]
theorem impl_IsArea_eq (k x y w d : Int) : impl_IsArea.f k x y w d = some (decide (PArea k x y w d)) := by
  unfold impl_IsArea.f
  simp only [within_eq, impl_isKind_eq, impl_place_eq, Option.bind_some]
  by_cases h1 : 0 ≤ k ∧ k ≤ 3
  · rw [if_pos (decide_eq_true h1)]
    by_cases h2 : PPlace x y
    · rw [if_pos (decide_eq_true h2)]
      unfold PPlace at h2
      rw [w64 (by omega), w64 (by omega), dec_and]
      congr 2
      unfold PArea
      exact propext ⟨fun h => by omega, fun h => by omega⟩
    · rw [if_neg (by simpa using h2), decide_eq_false (fun h => h2 (by unfold PArea at h; unfold PPlace; omega))]
  · rw [if_neg (by simpa using h1), decide_eq_false (fun h => h1 (by unfold PArea at h; omega))]
def PSite (l : List S63) : Prop := l.length ≤ 10 ∧ ∀ a ∈ l, PArea a.f0 a.f1 a.f2 a.f3 a.f4
instance (l : List S63) : Decidable (PSite l) := by unfold PSite; infer_instance
theorem spec_IsSite_l0 (l : List S63) (hn : l.length ≤ 140737488351232) : ∀ (s : List S63) (i : Int) (k : Nat), 0 ≤ i → l.drop i.toNat = s → s.length < k → spec_IsSite.l0 k l i = some (decide (l.length ≤ 10 ∧ ∀ a ∈ s, PArea a.f0 a.f1 a.f2 a.f3 a.f4))
  | [], i, k, h0, h, hk => by
    obtain ⟨k, rfl⟩ : ∃ m, k = m + 1 := ⟨k - 1, by omega⟩
    simp only [spec_IsSite.l0]
    rw [if_neg (drop_nil h0 h)]
    congr 2
    simp
    omega
  | a :: s, i, k, h0, h, hk => by
    obtain ⟨k, rfl⟩ : ∃ m, k = m + 1 := ⟨k - 1, by simp at hk; omega⟩
    obtain ⟨h1, h2, h3⟩ := drop_cons z63 h0 h
    have h2' : rd_T63 l i = a := h2
    simp only [spec_IsSite.l0]
    rw [if_pos h1, if_pos h0, h2', spec_IsArea_eq, Option.bind_some]
    by_cases hp : PArea a.f0 a.f1 a.f2 a.f3 a.f4
    · rw [if_pos (decide_eq_true hp), w64 (by omega), spec_IsSite_l0 l hn s (i + 1) k (by omega) h3 (by simpa using hk)]
      congr 2
      simp [hp]
    · rw [if_neg (by simpa using hp)]
      congr 1
      simp [hp]
theorem spec_IsSite_f (l : List S63) (hn : l.length ≤ 140737488351232) (k : Nat) (hk : l.length < k) : spec_IsSite.f k l = some (decide (PSite l)) := by
  unfold spec_IsSite.f PSite
  exact spec_IsSite_l0 l hn l 0 k (by omega) rfl hk
theorem impl_IsSite_l0 (l : List S63) (hn : l.length ≤ 140737488351232) : ∀ (s : List S63) (i : Int) (k : Nat), 0 ≤ i → l.drop i.toNat = s → s.length < k → impl_IsSite.l0 k l l.length i = some (decide (∀ a ∈ s, PArea a.f0 a.f1 a.f2 a.f3 a.f4))
  | [], i, k, h0, h, hk => by
    obtain ⟨k, rfl⟩ : ∃ m, k = m + 1 := ⟨k - 1, by omega⟩
    simp only [impl_IsSite.l0]
    rw [if_neg (drop_nil h0 h)]
    simp
  | a :: s, i, k, h0, h, hk => by
    obtain ⟨k, rfl⟩ : ∃ m, k = m + 1 := ⟨k - 1, by simp at hk; omega⟩
    obtain ⟨h1, h2, h3⟩ := drop_cons z63 h0 h
    have h2' : rd_T63 l i = a := h2
    simp only [impl_IsSite.l0]
    rw [if_pos h1, if_pos h0, if_pos h1, h2', impl_IsArea_eq, Option.bind_some]
    by_cases hp : PArea a.f0 a.f1 a.f2 a.f3 a.f4
    · rw [if_pos (decide_eq_true hp), w64 (by omega), impl_IsSite_l0 l hn s (i + 1) k (by omega) h3 (by simpa using hk)]
      congr 2
      simp [hp]
    · rw [if_neg (by simpa using hp)]
      congr 1
      simp [hp]
theorem impl_IsSite_f (l : List S63) (hn : l.length ≤ 140737488351232) (k : Nat) (hk : l.length < k) : impl_IsSite.f k l = some (decide (PSite l)) := by
  unfold impl_IsSite.f
  rw [impl_IsSite_l0 l hn l 0 k (by omega) rfl hk]
  by_cases h : (l.length : Int) > 10
  · rw [if_pos h, decide_eq_false (p := PSite l) (fun hh => by have := hh.1; omega)]
  · rw [if_neg h]
    congr 1
    exact decide_eq_decide.2 ⟨fun hh => (⟨by omega, hh⟩ : PSite l), fun hh => hh.2⟩
/-- How far a coordinate is from a range. -/
def PAway (x a w : Int) : Int := max (max 0 (a - x)) (x - a - w)
def PSq (X Y W D x y : Int) : Int := PAway x X W * PAway x X W + PAway y Y D * PAway y Y D
theorem mx_eq (a b : Int) : mx a b = max a b := by
  unfold mx
  omega
theorem PAway_bd {x a w : Int} (h : 0 ≤ x ∧ x ≤ 100000) (ha : 0 ≤ a ∧ a ≤ 100000) (hw : 1 ≤ w ∧ w ≤ 100000 - a) : 0 ≤ PAway x a w ∧ PAway x a w ≤ 100000 := by
  unfold PAway
  omega
theorem sq_bd {d : Int} (h : 0 ≤ d ∧ d ≤ 100000) : 0 ≤ d * d ∧ d * d ≤ 10000000000 := by
  have h1 : d * d ≤ 100000 * d := Int.mul_le_mul_of_nonneg_right h.2 h.1
  have h2 : 0 ≤ d * d := Int.mul_nonneg h.1 h.1
  omega
theorem PSq_bd {X Y W D x y : Int} (hp : PPlace x y) (ha : PPlace X Y) (hw : 1 ≤ W ∧ W ≤ 100000 - X) (hd : 1 ≤ D ∧ D ≤ 100000 - Y) : 0 ≤ PSq X Y W D x y ∧ PSq X Y W D x y ≤ 20000000000 := by
  unfold PPlace at *
  have h1 := sq_bd (PAway_bd (x := x) (a := X) (w := W) (by omega) (by omega) hw)
  have h2 := sq_bd (PAway_bd (x := y) (a := Y) (w := D) (by omega) (by omega) hd)
  unfold PSq
  omega
theorem spec_away_eq {x a w : Int} (h : 0 ≤ x ∧ x ≤ 100000) (ha : 0 ≤ a ∧ a ≤ 100000) (hw : 1 ≤ w ∧ w ≤ 100000 - a) : spec_l15Away.f x a (wrap64 (a + w)) = some (PAway x a w) := by
  unfold spec_l15Away.f PAway
  rw [w64 (n := a + w) (by omega), w64 (n := a - x) (by omega), w64 (n := x - (a + w)) (by omega), mx_eq, mx_eq]
  congr 1
  omega
theorem spec_Square_eq {K X Y W D x y : Int} (hp : PPlace x y) (ha : PPlace X Y) (hw : 1 ≤ W ∧ W ≤ 100000 - X) (hd : 1 ≤ D ∧ D ≤ 100000 - Y) : spec_l15Square.f K X Y W D x y = some (PSq X Y W D x y) := by
  unfold PPlace at *
  unfold spec_l15Square.f PSq
  rw [spec_away_eq (by omega) (by omega) hw, Option.bind_some, spec_away_eq (by omega) (by omega) hd, Option.bind_some]
  have h1 := sq_bd (PAway_bd (x := x) (a := X) (w := W) (by omega) (by omega) hw)
  have h2 := sq_bd (PAway_bd (x := y) (a := Y) (w := D) (by omega) (by omega) hd)
  rw [w64 (n := PAway x X W * PAway x X W) (by omega), w64 (n := PAway y Y D * PAway y Y D) (by omega), w64 (by omega)]
theorem impl_square_eq {K X Y W D x y : Int} (hp : PPlace x y) (ha : PPlace X Y) (hw : 1 ≤ W ∧ W ≤ 100000 - X) (hd : 1 ≤ D ∧ D ≤ 100000 - Y) : impl_squareTo.f K X Y W D x y = some (PSq X Y W D x y) := by
  unfold PPlace at *
  unfold impl_squareTo.f
  rw [w64 (n := X - x) (by omega), w64 (n := x - X) (by omega), w64 (n := x - X - W) (by omega), w64 (n := Y - y) (by omega), w64 (n := y - Y) (by omega), w64 (n := y - Y - D) (by omega)]
  simp only [mx_eq]
  have h1 := sq_bd (PAway_bd (x := x) (a := X) (w := W) (by omega) (by omega) hw)
  have h2 := sq_bd (PAway_bd (x := y) (a := Y) (w := D) (by omega) (by omega) hd)
  show some (wrap64 (wrap64 (PAway x X W * PAway x X W) + wrap64 (PAway y Y D * PAway y Y D))) = some (PSq X Y W D x y)
  rw [w64 (n := PAway x X W * PAway x X W) (by omega), w64 (n := PAway y Y D * PAway y Y D) (by omega), w64 (by omega)]
  rfl
theorem spec_l15Code_f (l : List S63) (hn : l.length ≤ 140737488351232) (k : Nat) (hk : l.length < k) (kind x y : Int) : spec_l15Code.f k l kind x y = some (if PSite l then (if PPlace x y ∧ 0 ≤ kind ∧ kind ≤ 3 then 0 else 2) else 1) := by
  unfold spec_l15Code.f
  rw [spec_IsSite_f l hn k hk, Option.bind_some]
  by_cases h : PSite l
  · rw [if_pos (decide_eq_true h), if_pos h, spec_place_eq, Option.bind_some]
    by_cases h2 : PPlace x y
    · rw [if_pos (decide_eq_true h2), l01In_eq, Option.bind_some]
      by_cases h3 : 0 ≤ kind ∧ kind ≤ 3
      · rw [if_pos (decide_eq_true h3), if_pos ⟨h2, h3⟩]
      · rw [if_neg (by simpa using h3), if_neg (fun h => h3 h.2)]
    · rw [if_neg (by simpa using h2), if_neg (fun h => h2 h.1)]
  · rw [if_neg (by simpa using h), if_neg h]
theorem impl_IsSite_ev (l : List S63) (hn : l.length ≤ 140737488351232) : Ev (fun k => impl_IsSite.f k l) (decide (PSite l)) := ⟨l.length + 1, fun k hk => impl_IsSite_f l hn k (by omega)⟩
theorem area_at {l : List S63} (h : PSite l) {i : Int} (h0 : 0 ≤ i) (h1 : i < l.length) : PArea (rd_T63 l i).f0 (rd_T63 l i).f1 (rd_T63 l i).f2 (rd_T63 l i).f3 (rd_T63 l i).f4 := by
  have hlt : i.toNat < l.length := by omega
  have e : rd_T63 l i = l[i.toNat] := by
    show l.getD i.toNat _ = _
    rw [List.getD_eq_getElem?_getD, List.getElem?_eq_getElem hlt]
    rfl
  rw [e]
  exact h.2 _ (List.getElem_mem hlt)
/-- The square distance of a place from the area with an index. -/
def sqAt (l : List S63) (x y i : Int) : Int := PSq (rd_T63 l i).f1 (rd_T63 l i).f2 (rd_T63 l i).f3 (rd_T63 l i).f4 x y
theorem spec_sqAt {l : List S63} (h : PSite l) {x y : Int} (hp : PPlace x y) {i : Int} (h0 : 0 ≤ i) (h1 : i < l.length) : spec_l15Square.f (rd_T63 l i).f0 (rd_T63 l i).f1 (rd_T63 l i).f2 (rd_T63 l i).f3 (rd_T63 l i).f4 x y = some (sqAt l x y i) := by
  have ha := area_at h h0 h1
  unfold PArea at ha
  exact spec_Square_eq hp (by unfold PPlace; omega) (by omega) (by omega)
theorem impl_sqAt {l : List S63} (h : PSite l) {x y : Int} (hp : PPlace x y) {i : Int} (h0 : 0 ≤ i) (h1 : i < l.length) : impl_squareTo.f (rd_T63 l i).f0 (rd_T63 l i).f1 (rd_T63 l i).f2 (rd_T63 l i).f3 (rd_T63 l i).f4 x y = some (sqAt l x y i) := by
  have ha := area_at h h0 h1
  unfold PArea at ha
  exact impl_square_eq hp (by unfold PPlace; omega) (by omega) (by omega)
theorem sqAt_bd {l : List S63} (h : PSite l) {x y : Int} (hp : PPlace x y) {i : Int} (h0 : 0 ≤ i) (h1 : i < l.length) : 0 ≤ sqAt l x y i ∧ sqAt l x y i ≤ 20000000000 := by
  have ha := area_at h h0 h1
  unfold PArea at ha
  exact PSq_bd hp (by unfold PPlace; omega) (by omega) (by omega)
/-- The nearest area of a kind from the index i on, d of them looked at, the best so far given. -/
def nearF (l : List S63) (kind x y : Int) : Nat → Int → Int → Int
  | 0, _, best => best
  | d + 1, i, best => if (rd_T63 l i).f0 = kind then (if best < 0 then nearF l kind x y d (i + 1) i else if sqAt l x y i < sqAt l x y best then nearF l kind x y d (i + 1) i else nearF l kind x y d (i + 1) best) else nearF l kind x y d (i + 1) best
theorem nearF_range (l : List S63) (kind x y n : Int) : ∀ (d : Nat) (i best : Int), 0 ≤ i → i + d = n → -1 ≤ best → best < n → -1 ≤ nearF l kind x y d i best ∧ nearF l kind x y d i best < n
  | 0, i, best, _, _, h2, h3 => ⟨h2, h3⟩
  | d + 1, i, best, h0, h1, h2, h3 => by
    unfold nearF
    split
    · split
      · exact nearF_range l kind x y n d _ _ (by omega) (by omega) (by omega) (by omega)
      · split
        · exact nearF_range l kind x y n d _ _ (by omega) (by omega) (by omega) (by omega)
        · exact nearF_range l kind x y n d _ _ (by omega) (by omega) (by omega) (by omega)
    · exact nearF_range l kind x y n d _ _ (by omega) (by omega) (by omega) (by omega)
theorem spec_near_l0 {l : List S63} (h : PSite l) {x y : Int} (hp : PPlace x y) (kind : Int) : ∀ (d : Nat) (i best : Int), 0 ≤ i → i + d = l.length → -1 ≤ best → best < l.length →
    Ev (fun k => spec_l15Nearest.l0 k l kind x y best (if best < 0 then 0 else sqAt l x y best) i) (nearF l kind x y d i best, if nearF l kind x y d i best < 0 then 0 else sqAt l x y (nearF l kind x y d i best))
  | 0, i, best, h0, h1, h2, h3 => by
    refine Ev_shift ?_
    simp only [spec_l15Nearest.l0, if_neg (show ¬ i < (l.length : Int) by omega), nearF]
    exact Ev.now _
  | d + 1, i, best, h0, h1, h2, h3 => by
    have hl := h.1
    have hi : i < (l.length : Int) := by omega
    refine Ev_shift ?_
    unfold nearF
    simp only [spec_l15Nearest.l0, if_pos hi, if_pos h0, spec_sqAt h hp h0 hi, Option.bind_some, w64 (n := i + 1) (by omega)]
    have take := spec_near_l0 h hp kind d (i + 1) i (by omega) (by omega) (by omega) hi
    simp only [if_neg (show ¬ i < 0 by omega)] at take
    have keep := spec_near_l0 h hp kind d (i + 1) best (by omega) (by omega) h2 h3
    by_cases c1 : (rd_T63 l i).f0 = kind
    · simp only [if_pos c1]
      by_cases c2 : best < 0
      · simp only [if_pos c2] at keep ⊢
        exact take
      · simp only [if_neg c2] at keep ⊢
        by_cases c3 : sqAt l x y i < sqAt l x y best
        · simp only [if_pos c3]
          exact take
        · simp only [if_neg c3]
          exact keep
    · simp only [if_neg c1]
      exact keep
theorem spec_near {l : List S63} (h : PSite l) {x y : Int} (hp : PPlace x y) (kind : Int) : Ev (fun k => spec_l15Nearest.f k l kind x y) (nearF l kind x y l.length 0 (-1), if nearF l kind x y l.length 0 (-1) < 0 then 0 else sqAt l x y (nearF l kind x y l.length 0 (-1))) := by
  unfold spec_l15Nearest.f
  exact spec_near_l0 h hp kind l.length 0 (-1) (by omega) (by omega) (by omega) (by omega)
theorem impl_near_l0 {l : List S63} (h : PSite l) {x y : Int} (hp : PPlace x y) (kind : Int) : ∀ (d : Nat) (i best : Int), 0 ≤ i → i + d = l.length → -1 ≤ best → best < l.length →
    Ev (fun k => impl_nearestArea.l0 k l kind x y best l l.length i) (nearF l kind x y d i best)
  | 0, i, best, h0, h1, h2, h3 => by
    refine Ev_shift ?_
    simp only [impl_nearestArea.l0, if_neg (show ¬ i < (l.length : Int) by omega), nearF]
    exact Ev.now _
  | d + 1, i, best, h0, h1, h2, h3 => by
    have hl := h.1
    have hi : i < (l.length : Int) := by omega
    refine Ev_shift ?_
    unfold nearF
    have take := impl_near_l0 h hp kind d (i + 1) i (by omega) (by omega) (by omega) hi
    have keep := impl_near_l0 h hp kind d (i + 1) best (by omega) (by omega) h2 h3
    simp only [impl_nearestArea.l0, if_pos hi, if_pos h0, impl_sqAt h hp h0 hi, Option.bind_some, w64 (n := i + 1) (by omega)]
    by_cases c1 : (rd_T63 l i).f0 = kind
    · simp only [if_pos c1]
      by_cases c2 : best < 0
      · simp only [if_pos c2]
        exact take
      · simp only [if_neg c2, if_pos (show 0 ≤ best by omega), if_pos h3, impl_sqAt h hp (show 0 ≤ best by omega) h3, Option.bind_some]
        by_cases c3 : sqAt l x y i < sqAt l x y best
        · simp only [if_pos c3]
          exact take
        · simp only [if_neg c3]
          exact keep
    · simp only [if_neg c1]
      exact keep
theorem impl_near {l : List S63} (h : PSite l) {x y : Int} (hp : PPlace x y) (kind : Int) : Ev (fun k => impl_nearestArea.f k l kind x y) (nearF l kind x y l.length 0 (-1)) := by
  unfold impl_nearestArea.f
  exact impl_near_l0 h hp kind l.length 0 (-1) (by omega) (by omega) (by omega) (by omega)
theorem spec_l15Code_ev (l : List S63) (hn : l.length ≤ 140737488351232) (kind x y : Int) : Ev (fun k => spec_l15Code.f k l kind x y) (if PSite l then (if PPlace x y ∧ 0 ≤ kind ∧ kind ≤ 3 then 0 else 2) else 1) := ⟨l.length + 1, fun k hk => spec_l15Code_f l hn k (by omega) kind x y⟩
theorem sq_lt {a b : Int} (hb : 0 ≤ b) (h : a * a < b * b) : a < b := by
  rcases Int.lt_or_le a b with h1 | h1
  · exact h1
  · have := Int.mul_self_le_mul_self hb h1
    omega
theorem spec_root_l0 (n : Int) : ∀ (d : Nat) (low high : Int), 0 ≤ low → low < high → high ≤ 100001 → high - low ≤ d → low * low ≤ n → (high = 100001 ∨ n < high * high) → ∃ r, Ev (fun k => spec_l15Root.l0 k n low high) r ∧ 0 ≤ r ∧ r ≤ 100000 ∧ r * r ≤ n ∧ (r = 100000 ∨ n < (r + 1) * (r + 1))
  | 0, low, high, h0, h1, h2, hd, hl, hh => by omega
  | d + 1, low, high, h0, h1, h2, hd, hl, hh => by
    by_cases c : low + 1 < high
    · have hm : low < (low + high) / 2 ∧ (low + high) / 2 < high := by omega
      have hs := Int.mul_self_le_mul_self (a := (low + high) / 2) (b := 100001) (by omega) (by omega)
      have hs0 := Int.mul_nonneg (a := (low + high) / 2) (b := (low + high) / 2) (by omega) (by omega)
      have ht : wrap64 (Int.tdiv (wrap64 (low + high)) 2) = (low + high) / 2 := by rw [w64 (n := low + high) (by omega), Int.tdiv_eq_ediv_of_nonneg (by omega), w64 (by omega)]
      by_cases c2 : (low + high) / 2 * ((low + high) / 2) ≤ n
      · obtain ⟨r, e, hr⟩ := spec_root_l0 n d ((low + high) / 2) high (by omega) hm.2 h2 (by omega) c2 hh
        refine ⟨r, Ev_shift ?_, hr⟩
        simp only [spec_l15Root.l0, w64 (n := low + 1) (by omega), if_pos c, ht, w64 (n := (low + high) / 2 * ((low + high) / 2)) (by omega), if_pos c2]
        exact e
      · obtain ⟨r, e, hr⟩ := spec_root_l0 n d low ((low + high) / 2) h0 hm.1 (by omega) (by omega) hl (.inr (by omega))
        refine ⟨r, Ev_shift ?_, hr⟩
        simp only [spec_l15Root.l0, w64 (n := low + 1) (by omega), if_pos c, ht, w64 (n := (low + high) / 2 * ((low + high) / 2)) (by omega), if_neg c2]
        exact e
    · have e : high = low + 1 := by omega
      subst e
      refine ⟨low, Ev_shift ?_, h0, by omega, hl, by
        rcases hh with hh | hh
        · exact .inl (by omega)
        · exact .inr hh⟩
      simp only [spec_l15Root.l0, w64 (n := low + 1) (by omega), if_neg c]
      exact Ev.now _
theorem spec_root_ev {n : Int} (h : 0 ≤ n) : ∃ r, Ev (fun k => spec_l15Root.f k n) r ∧ 0 ≤ r ∧ r ≤ 100000 ∧ r * r ≤ n ∧ (r = 100000 ∨ n < (r + 1) * (r + 1)) := by
  unfold spec_l15Root.f
  exact spec_root_l0 n 100001 0 100001 (by omega) (by omega) (by omega) (by omega) (by omega) (.inl rfl)
theorem impl_root_l0 (n : Int) : ∀ (d : Nat) (low high : Int), 0 ≤ low → low ≤ high → high ≤ 3037000499 → high - low ≤ d → low * low ≤ n → n < (high + 1) * (high + 1) → ∃ r, Ev (fun k => impl_root.l0 k n low high) r ∧ 0 ≤ r ∧ r * r ≤ n ∧ n < (r + 1) * (r + 1)
  | d, low, high, h0, h1, h2, hd, hl, hh => by
    by_cases c : low < high
    · have hm : low < (low + high + 1) / 2 ∧ (low + high + 1) / 2 ≤ high := by omega
      have hs := Int.mul_self_le_mul_self (a := (low + high + 1) / 2) (b := 3037000499) (by omega) (by omega)
      have hs0 := Int.mul_nonneg (a := (low + high + 1) / 2) (b := (low + high + 1) / 2) (by omega) (by omega)
      have ht : wrap64 (Int.tdiv (wrap64 (wrap64 (low + high) + 1)) 2) = (low + high + 1) / 2 := by rw [w64 (n := low + high) (by omega), w64 (n := low + high + 1) (by omega), Int.tdiv_eq_ediv_of_nonneg (by omega), w64 (by omega)]
      cases d with
      | zero => omega
      | succ d =>
        by_cases c2 : (low + high + 1) / 2 * ((low + high + 1) / 2) ≤ n
        · obtain ⟨r, e, hr⟩ := impl_root_l0 n d ((low + high + 1) / 2) high (by omega) hm.2 h2 (by omega) c2 hh
          refine ⟨r, Ev_shift ?_, hr⟩
          simp only [impl_root.l0, if_pos c, ht, w64 (n := (low + high + 1) / 2 * ((low + high + 1) / 2)) (by omega), if_pos c2]
          exact e
        · obtain ⟨r, e, hr⟩ := impl_root_l0 n d low ((low + high + 1) / 2 - 1) h0 (by omega) (by omega) (by omega) hl (by rw [show (low + high + 1) / 2 - 1 + 1 = (low + high + 1) / 2 by omega]; omega)
          refine ⟨r, Ev_shift ?_, hr⟩
          simp only [impl_root.l0, if_pos c, ht, w64 (n := (low + high + 1) / 2 * ((low + high + 1) / 2)) (by omega), if_neg c2, w64 (n := (low + high + 1) / 2 - 1) (by omega)]
          exact e
    · have e : high = low := by omega
      subst e
      refine ⟨high, Ev_shift ?_, h0, hl, hh⟩
      simp only [impl_root.l0, if_neg c]
      exact Ev.now _
theorem impl_root_ev {n : Int} (h : 0 ≤ n) (h2 : n ≤ 9000000000000000000) : ∃ r, Ev (fun k => impl_root.f k n) r ∧ 0 ≤ r ∧ r * r ≤ n ∧ n < (r + 1) * (r + 1) := by
  unfold impl_root.f
  exact impl_root_l0 n 3037000499 0 3037000499 (by omega) (by omega) (by omega) (by omega) (by omega) (by omega)
theorem root_same {n r s : Int} (hr : 0 ≤ r ∧ r ≤ 100000 ∧ r * r ≤ n ∧ (r = 100000 ∨ n < (r + 1) * (r + 1))) (hs : 0 ≤ s ∧ s * s ≤ n ∧ n < (s + 1) * (s + 1)) : mn 100000 s = r := by
  have h1 : r < s + 1 := sq_lt (by omega) (by omega)
  unfold mn
  rcases hr.2.2.2 with e | e
  · rw [if_neg (by omega)]
    exact e.symm
  · have h2 : s < r + 1 := sq_lt (by omega) (by omega)
    split <;> omega
theorem agree_FreeRadius (m0 : List S63) (a1 : Int) (a2 : Int) (a3 : Int) (hn0 : m0.length ≤ 1000000) (hq0 : ∀ x ∈ m0, (I64 x.f0 ∧ I64 x.f1 ∧ I64 x.f2 ∧ I64 x.f3 ∧ I64 x.f4)) (q1 : I64 a1) (q2 : I64 a2) (q3 : I64 a3) : ∃ (K : Nat) (r1 : Int) (r2 : Int), ∀ k, K ≤ k → spec_FreeRadius.f k m0 a1 a2 a3 = some (r1, r2) ∧ impl_FreeRadius.f k m0 a1 a2 a3 = some (r1, r2) := by
  have fin : ∀ q : Int × Int, Ev (fun k => spec_FreeRadius.f k m0 a1 a2 a3) q → Ev (fun k => impl_FreeRadius.f k m0 a1 a2 a3) q → ∃ (K : Nat) (r1 : Int) (r2 : Int), ∀ k, K ≤ k → spec_FreeRadius.f k m0 a1 a2 a3 = some (r1, r2) ∧ impl_FreeRadius.f k m0 a1 a2 a3 = some (r1, r2) := by
    rintro ⟨x, y⟩ e1 e2
    obtain ⟨K, hk⟩ := Ev_both e1 e2
    exact ⟨K, x, y, hk⟩
  have hs := spec_l15Code_ev m0 (by omega) a1 a2 a3
  have hi := impl_IsSite_ev m0 (by omega)
  have bad : Ev (fun k => impl_FreeRadius.j0 k m0 a1 a2 a3 true) ((0 : Int), (2 : Int)) := by
    refine Ev_shift ?_
    simp only [impl_FreeRadius.j0, if_true]
    exact Ev.now _
  by_cases h : PSite m0
  · rw [if_pos h] at hs
    by_cases c1 : 0 ≤ a1 ∧ a1 ≤ 3
    · by_cases c2 : PPlace a2 a3
      · rw [if_pos ⟨c2, c1⟩] at hs
        have hr := nearF_range m0 a1 a2 a3 m0.length m0.length 0 (-1) (by omega) (by omega) (by omega) (by omega)
        have hi2 : ∀ q, Ev (fun k => (impl_nearestArea.f k m0 a1 a2 a3).bind fun t167 => (if t167 < 0 then (some (100000, 0)) else (if 0 ≤ t167 then (if t167 < (m0.length : Int) then ((impl_squareTo.f ((rd_T63 m0 t167).f0) ((rd_T63 m0 t167).f1) ((rd_T63 m0 t167).f2) ((rd_T63 m0 t167).f3) ((rd_T63 m0 t167).f4) a2 a3).bind fun t169 => ((impl_root.f k t169).bind fun t170 => (some (mn 100000 t170, 0)))) else (none)) else (none)))) q → Ev (fun k => impl_FreeRadius.f k m0 a1 a2 a3) q := fun q hq => by
          unfold impl_FreeRadius.f
          refine Ev.bind hi ?_
          simp only [decide_eq_true h, if_true, impl_isKind_eq, impl_place_eq, Option.bind_some, decide_eq_true_eq, if_pos c1, decide_eq_true c2, Bool.not_true]
          refine Ev_shift ?_
          simp only [impl_FreeRadius.j0, Bool.false_eq_true, if_false]
          refine Ev_eq (r := q) ?_ rfl
          obtain ⟨K, hK⟩ := hq
          exact ⟨K, fun k hk => hK k hk⟩
        by_cases c3 : nearF m0 a1 a2 a3 m0.length 0 (-1) < 0
        · refine fin (100000, 0) ?_ (hi2 _ ?_)
          · unfold spec_FreeRadius.f
            refine Ev.bind hs ?_
            simp only [if_true]
            refine Ev.bind (spec_near h c2 a1) ?_
            simp only [if_pos c3]
            exact Ev.now _
          · refine Ev.bind (impl_near h c2 a1) ?_
            simp only [if_pos c3]
            exact Ev.now _
        · have hb := sqAt_bd h c2 (show 0 ≤ nearF m0 a1 a2 a3 m0.length 0 (-1) by omega) hr.2
          obtain ⟨r, er, hr1⟩ := spec_root_ev hb.1
          obtain ⟨s, es, hs1⟩ := impl_root_ev hb.1 (by omega)
          refine fin (r, 0) ?_ (hi2 _ ?_)
          · unfold spec_FreeRadius.f
            refine Ev.bind hs ?_
            simp only [if_true]
            refine Ev.bind (spec_near h c2 a1) ?_
            simp only [if_neg c3]
            exact Ev.bind er (Ev.now _)
          · refine Ev.bind (impl_near h c2 a1) ?_
            simp only [if_neg c3, if_pos (show 0 ≤ nearF m0 a1 a2 a3 m0.length 0 (-1) by omega), if_pos hr.2, impl_sqAt h c2 (show 0 ≤ nearF m0 a1 a2 a3 m0.length 0 (-1) by omega) hr.2, Option.bind_some]
            exact Ev.bind es (Ev_some (by rw [root_same hr1 hs1]))
      · rw [if_neg (fun hh => c2 hh.1)] at hs
        refine fin (0, 2) ?_ ?_
        · unfold spec_FreeRadius.f
          exact Ev.bind hs (Ev.now _)
        · unfold impl_FreeRadius.f
          refine Ev.bind hi ?_
          simp only [decide_eq_true h, if_true, impl_isKind_eq, impl_place_eq, Option.bind_some, decide_eq_true_eq, if_pos c1, decide_eq_false c2, Bool.not_false]
          exact bad
    · rw [if_neg (fun hh => c1 hh.2)] at hs
      refine fin (0, 2) ?_ ?_
      · unfold spec_FreeRadius.f
        exact Ev.bind hs (Ev.now _)
      · unfold impl_FreeRadius.f
        refine Ev.bind hi ?_
        simp only [decide_eq_true h, if_true, impl_isKind_eq, Option.bind_some, decide_eq_true_eq, if_neg c1]
        exact bad
  · rw [if_neg h] at hs
    refine fin (0, 1) ?_ ?_
    · unfold spec_FreeRadius.f
      exact Ev.bind hs (Ev.now _)
    · unfold impl_FreeRadius.f
      refine Ev.bind hi ?_
      simp only [decide_eq_false h, Bool.false_eq_true, if_false]
      exact Ev.now _
end Go.Proofs.Ytffnhobhpfnimaa.Pure
