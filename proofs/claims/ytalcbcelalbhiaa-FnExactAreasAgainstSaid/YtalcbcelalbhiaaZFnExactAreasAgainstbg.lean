/- PureFnExactAreasAgainst of the law FnExactAreasAgainst: taken over, declaration by declaration, as far as the law leans on it (the words and the printed functions are the kit's own print). No condition but what each says. -/
import Derived.Test.YtalcbcelalbhiaaZFnExactAreasAgainstav
import Derived.Test.YtalcbcelalbhiaaZFnExactAreasAgainstaw
import Derived.Test.YtalcbcelalbhiaaZFnExactAreasAgainstax
import Derived.Test.YtalcbcelalbhiaaZFnExactAreasAgainstay
import Derived.Test.YtalcbcelalbhiaaZFnExactAreasAgainstaz
import Derived.Test.YtalcbcelalbhiaaZFnExactAreasAgainstba
import Derived.Test.YtalcbcelalbhiaaZFnExactAreasAgainstbb
import Derived.Test.YtalcbcelalbhiaaZFnExactAreasAgainstbc
import Derived.Test.YtalcbcelalbhiaaZFnExactAreasAgainstbd
namespace Go.Proofs.Ytalcbcelalbhiaa.Pure
open Go.RowKit Go.Proofs.Ytalcbcelalbhiaa.PFnExactAreasAgainst Go.Proofs.YtalcbcelalbhiaaW.PrintWords Go.Proofs.YtalcbcelalbhiaaW.PrintLast Go.Proofs.Ytalcbcelalbhiaa.Opening
set_option linter.unusedVariables false
set_option linter.unusedSimpArgs false
theorem w64 {n : Int} (h : -9223372036854775808 ≤ n ∧ n ≤ 9223372036854775807) : wrap64 n = n := by
  unfold wrap64
  omega
theorem dec_and {p q : Prop} [Decidable p] [Decidable q] : (if decide p = true then some (decide q) else some false) = some (decide (p ∧ q)) := by
  by_cases h : p <;> simp [h]
theorem l01In_eq (a b c : Int) : spec_l01In.f a b c = some (decide (b ≤ a ∧ a ≤ c)) := by
  unfold spec_l01In.f
  by_cases h : b ≤ a <;> simp [h]
theorem within_eq (a b c : Int) : impl_within.f a b c = some (decide (b ≤ a ∧ a ≤ c)) := by
  unfold impl_within.f
  by_cases h : b ≤ a <;> simp [h]
theorem drop_cons {α : Type} {l : List α} {i : Int} {a : α} {s : List α} (z : α) (h0 : 0 ≤ i) (h : l.drop i.toNat = a :: s) : i < l.length ∧ l.getD i.toNat z = a ∧ l.drop (i + 1).toNat = s := by
  have hlt : i.toNat < l.length := by
    rcases Nat.lt_or_ge i.toNat l.length with h1 | h1
    · exact h1
    · rw [List.drop_eq_nil_of_le h1] at h; cases h
  rw [List.drop_eq_getElem_cons hlt] at h
  injection h with h1 h2
  refine ⟨by omega, ?_, ?_⟩
  · rw [List.getD_eq_getElem?_getD, List.getElem?_eq_getElem hlt]; exact h1
  · rw [show (i + 1).toNat = i.toNat + 1 by omega]; exact h2
theorem drop_nil {α : Type} {l : List α} {i : Int} (h0 : 0 ≤ i) (h : l.drop i.toNat = []) : ¬ i < (l.length : Int) := by
  have := List.drop_eq_nil_iff.1 h
  omega
theorem Ev_shift {α : Type} {g : Nat → Option α} {r : α} (h : Ev (fun k => g (k + 1)) r) : Ev g r := Ev.step (fun _ => rfl) h
theorem Ev_both {α β : Type} {g : Nat → Option α} {f : Nat → Option β} {r : α} {q : β} (h1 : Ev g r) (h2 : Ev f q) : ∃ K, ∀ k, K ≤ k → g k = some r ∧ f k = some q := by
  obtain ⟨K, h1⟩ := h1
  obtain ⟨K', h2⟩ := h2
  exact ⟨max K K', fun k hk => ⟨h1 k (by omega), h2 k (by omega)⟩⟩
theorem Ev_eq {α : Type} {g : Nat → Option α} {r q : α} (h : Ev g r) (e : r = q) : Ev g q := e ▸ h
theorem Ev_some {α : Type} {r q : α} (e : r = q) : Ev (fun _ => some r) q := e ▸ Ev.now r
noncomputable def tt (p : Prop) : Bool := @decide p (Classical.propDecidable p)
theorem tt_pos {p : Prop} (h : p) : tt p = true := by unfold tt; exact @decide_eq_true p (Classical.propDecidable p) h
theorem tt_neg {p : Prop} (h : ¬ p) : tt p = false := by unfold tt; exact @decide_eq_false p (Classical.propDecidable p) h
theorem tt_dec (p : Prop) [i : Decidable p] : tt p = decide p := by
  by_cases h : p
  · rw [tt_pos h, decide_eq_true h]
  · rw [tt_neg h, decide_eq_false h]
theorem tt_iff {p q : Prop} (h : p ↔ q) : tt p = tt q := by rw [propext h]
theorem tt_and (p q : Prop) : (tt p && tt q) = tt (p ∧ q) := by
  by_cases h : p
  · rw [tt_pos h, Bool.true_and]; exact tt_iff ⟨fun x => ⟨h, x⟩, fun x => x.2⟩
  · rw [tt_neg h, Bool.false_and, tt_neg (fun x => h x.1)]
theorem tt_eq_true {p : Prop} : tt p = true ↔ p := by
  by_cases h : p
  · exact ⟨fun _ => h, fun _ => tt_pos h⟩
  · refine ⟨fun e => ?_, fun h' => absurd h' h⟩
    rw [tt_neg h] at e
    cases e
theorem ev_all {L : Int → Nat → Option Bool} {P : Int → Prop} {n : Int} {fin : Bool} (h1 : ∀ i, 0 ≤ i → i < n → P i → ∀ r, Ev (L (i + 1)) r → Ev (L i) r) (h2 : ∀ i, 0 ≤ i → i < n → ¬ P i → Ev (L i) false) (h3 : Ev (L n) fin) :
    ∀ (d : Nat) (i : Int), 0 ≤ i → i + d = n → Ev (L i) (fin && tt (∀ j, i ≤ j → j < n → P j))
  | 0, i, h0, hd => by
    have e : i = n := by omega
    rw [e, tt_pos (fun j h1 h2 => by omega), Bool.and_true]
    exact h3
  | d + 1, i, h0, hd => by
    by_cases hp : P i
    · have := h1 i h0 (by omega) hp _ (ev_all h1 h2 h3 d (i + 1) (by omega) (by omega))
      refine Ev_eq this ?_
      congr 1
      exact tt_iff ⟨fun h j h1 h2 => by
        by_cases e : j = i
        · rw [e]; exact hp
        · exact h j (by omega) h2, fun h j h1 h2 => h j (by omega) h2⟩
    · rw [tt_neg (fun h => hp (h i (Int.le_refl _) (by omega))), Bool.and_false]
      exact h2 i h0 (by omega) hp
/-- The numbers from i on, d of them looked at, that are told true. -/
def idxF (p : Int → Bool) : Nat → Int → List Int
  | 0, _ => []
  | d + 1, i => if p i = true then i :: idxF p d (i + 1) else idxF p d (i + 1)
theorem idxF_length (p : Int → Bool) : ∀ (d : Nat) (i : Int), (idxF p d i).length ≤ d
  | 0, _ => Nat.le_refl _
  | d + 1, i => by
    unfold idxF
    have := idxF_length p d (i + 1)
    split
    · simp only [List.length_cons]
      omega
    · omega
theorem ev_filter {ρ : Type} {L : Int → List Int → Nat → Option ρ} {p : Int → Bool} {n : Int} {fin : List Int → ρ}
    (h1 : ∀ (i : Int) (out : List Int), 0 ≤ i → i < n → (out.length : Int) ≤ i → p i = true → ∀ r, Ev (L (i + 1) (out ++ [i])) r → Ev (L i out) r)
    (h2 : ∀ (i : Int) (out : List Int), 0 ≤ i → i < n → (out.length : Int) ≤ i → p i = false → ∀ r, Ev (L (i + 1) out) r → Ev (L i out) r)
    (h3 : ∀ out : List Int, (out.length : Int) ≤ n → Ev (L n out) (fin out)) :
    ∀ (d : Nat) (i : Int) (out : List Int), 0 ≤ i → i + d = n → (out.length : Int) ≤ i → Ev (L i out) (fin (out ++ idxF p d i))
  | 0, i, out, h0, hd, hl => by
    have e : i = n := by omega
    subst e
    simp only [idxF, List.append_nil]
    exact h3 out hl
  | d + 1, i, out, h0, hd, hl => by
    unfold idxF
    cases hp : p i with
    | true =>
      refine h1 i out h0 (by omega) hl hp _ ?_
      have := ev_filter h1 h2 h3 d (i + 1) (out ++ [i]) (by omega) (by omega) (by simp; omega)
      simpa using this
    | false =>
      refine h2 i out h0 (by omega) hl hp _ ?_
      have := ev_filter h1 h2 h3 d (i + 1) out (by omega) (by omega) (by omega)
      simpa using this
theorem mx_eq (a b : Int) : mx a b = max a b := by
  unfold mx
  omega
def PPlace (x y : Int) : Prop := 0 ≤ x ∧ x ≤ 100000 ∧ 0 ≤ y ∧ y ≤ 100000
instance (x y : Int) : Decidable (PPlace x y) := by unfold PPlace; infer_instance
def PArea (k x y w d : Int) : Prop := 0 ≤ k ∧ k ≤ 3 ∧ 0 ≤ x ∧ x ≤ 100000 ∧ 0 ≤ y ∧ y ≤ 100000 ∧ 1 ≤ w ∧ w ≤ 100000 - x ∧ 1 ≤ d ∧ d ≤ 100000 - y
instance (k x y w d : Int) : Decidable (PArea k x y w d) := by unfold PArea; infer_instance
theorem spec_place_eq (x y : Int) : spec_l15Place.f x y = some (decide (PPlace x y)) := by
  unfold spec_l15Place.f PPlace
  simp only [l01In_eq, Option.bind_some]
  rw [dec_and]
  congr 2
  exact propext ⟨fun h => by omega, fun h => by omega⟩
theorem impl_place_eq (x y : Int) : impl_isPlace.f x y = some (decide (PPlace x y)) := by
  unfold impl_isPlace.f PPlace
  simp only [within_eq, Option.bind_some]
  rw [dec_and]
  congr 2
  exact propext ⟨fun h => by omega, fun h => by omega⟩
theorem impl_isKind_eq (k : Int) : impl_isKind.f k = some (decide (0 ≤ k ∧ k ≤ 3)) := by
  unfold impl_isKind.f
  rw [within_eq]; rfl
theorem spec_IsArea_eq (k x y w d : Int) : spec_IsArea.f k x y w d = some (decide (PArea k x y w d)) := by
  unfold spec_IsArea.f
  simp only [l01In_eq, spec_place_eq, Option.bind_some]
  by_cases h1 : 0 ≤ k ∧ k ≤ 3
  · rw [if_pos (decide_eq_true h1)]
    by_cases h2 : PPlace x y
    · rw [if_pos (decide_eq_true h2)]
      unfold PPlace at h2
      rw [w64 (by omega), w64 (by omega), dec_and]
      congr 2
      unfold PArea
      exact propext ⟨fun h => by omega, fun h => by omega⟩
    · rw [if_neg (by simpa using h2), decide_eq_false (fun h => h2 (by unfold PArea at h; unfold PPlace; omega))]
  · rw [if_neg (by simpa using h1), decide_eq_false (fun h => h1 (by unfold PArea at h; omega))]
theorem impl_IsArea_eq (k x y w d : Int) : impl_IsArea.f k x y w d = some (decide (PArea k x y w d)) := by
  unfold impl_IsArea.f
  simp only [within_eq, impl_isKind_eq, impl_place_eq, Option.bind_some]
  by_cases h1 : 0 ≤ k ∧ k ≤ 3
  · rw [if_pos (decide_eq_true h1)]
    by_cases h2 : PPlace x y
    · rw [if_pos (decide_eq_true h2)]
      unfold PPlace at h2
      rw [w64 (by omega), w64 (by omega), dec_and]
      congr 2
      unfold PArea
      exact propext ⟨fun h => by omega, fun h => by omega⟩
    · rw [if_neg (by simpa using h2), decide_eq_false (fun h => h2 (by unfold PArea at h; unfold PPlace; omega))]
  · rw [if_neg (by simpa using h1), decide_eq_false (fun h => h1 (by unfold PArea at h; omega))]
def PSite (l : List S83) : Prop := l.length ≤ 10 ∧ ∀ a ∈ l, PArea a.f0 a.f1 a.f2 a.f3 a.f4
instance (l : List S83) : Decidable (PSite l) := by unfold PSite; infer_instance
theorem spec_IsSite_l0 (l : List S83) (hn : l.length ≤ 140737488351232) : ∀ (s : List S83) (i : Int) (k : Nat), 0 ≤ i → l.drop i.toNat = s → s.length < k → spec_IsSite.l0 k l i = some (decide (l.length ≤ 10 ∧ ∀ a ∈ s, PArea a.f0 a.f1 a.f2 a.f3 a.f4))
  | [], i, k, h0, h, hk => by
    obtain ⟨k, rfl⟩ : ∃ m, k = m + 1 := ⟨k - 1, by omega⟩
    simp only [spec_IsSite.l0]
    rw [if_neg (drop_nil h0 h)]
    congr 2
    simp
    omega
  | a :: s, i, k, h0, h, hk => by
    obtain ⟨k, rfl⟩ : ∃ m, k = m + 1 := ⟨k - 1, by simp at hk; omega⟩
    obtain ⟨h1, h2, h3⟩ := drop_cons z83 h0 h
    have h2' : rd_T83 l i = a := h2
    simp only [spec_IsSite.l0]
    rw [if_pos h1, if_pos h0, h2', spec_IsArea_eq, Option.bind_some]
    by_cases hp : PArea a.f0 a.f1 a.f2 a.f3 a.f4
    · rw [if_pos (decide_eq_true hp), w64 (by omega), spec_IsSite_l0 l hn s (i + 1) k (by omega) h3 (by simpa using hk)]
      congr 2
      simp [hp]
    · rw [if_neg (by simpa using hp)]
      congr 1
      simp [hp]
theorem spec_IsSite_f (l : List S83) (hn : l.length ≤ 140737488351232) (k : Nat) (hk : l.length < k) : spec_IsSite.f k l = some (decide (PSite l)) := by
  unfold spec_IsSite.f PSite
  exact spec_IsSite_l0 l hn l 0 k (by omega) rfl hk
theorem impl_IsSite_l0 (l : List S83) (hn : l.length ≤ 140737488351232) : ∀ (s : List S83) (i : Int) (k : Nat), 0 ≤ i → l.drop i.toNat = s → s.length < k → impl_IsSite.l0 k l l.length i = some (decide (∀ a ∈ s, PArea a.f0 a.f1 a.f2 a.f3 a.f4))
  | [], i, k, h0, h, hk => by
    obtain ⟨k, rfl⟩ : ∃ m, k = m + 1 := ⟨k - 1, by omega⟩
    simp only [impl_IsSite.l0]
    rw [if_neg (drop_nil h0 h)]
    simp
  | a :: s, i, k, h0, h, hk => by
    obtain ⟨k, rfl⟩ : ∃ m, k = m + 1 := ⟨k - 1, by simp at hk; omega⟩
    obtain ⟨h1, h2, h3⟩ := drop_cons z83 h0 h
    have h2' : rd_T83 l i = a := h2
    simp only [impl_IsSite.l0]
    rw [if_pos h1, if_pos h0, if_pos h1, h2', impl_IsArea_eq, Option.bind_some]
    by_cases hp : PArea a.f0 a.f1 a.f2 a.f3 a.f4
    · rw [if_pos (decide_eq_true hp), w64 (by omega), impl_IsSite_l0 l hn s (i + 1) k (by omega) h3 (by simpa using hk)]
      congr 2
      simp [hp]
    · rw [if_neg (by simpa using hp)]
      congr 1
      simp [hp]
theorem impl_IsSite_f (l : List S83) (hn : l.length ≤ 140737488351232) (k : Nat) (hk : l.length < k) : impl_IsSite.f k l = some (decide (PSite l)) := by
  unfold impl_IsSite.f
  rw [impl_IsSite_l0 l hn l 0 k (by omega) rfl hk]
  by_cases h : (l.length : Int) > 10
  · rw [if_pos h, decide_eq_false (p := PSite l) (fun hh => by have := hh.1; omega)]
  · rw [if_neg h]
    congr 1
    exact decide_eq_decide.2 ⟨fun hh => (⟨by omega, hh⟩ : PSite l), fun hh => hh.2⟩
/-- How far a coordinate is from a range. -/
def PAway (x a w : Int) : Int := max (max 0 (a - x)) (x - a - w)
def PSq (X Y W D x y : Int) : Int := PAway x X W * PAway x X W + PAway y Y D * PAway y Y D
theorem PAway_bd {x a w : Int} (h : 0 ≤ x ∧ x ≤ 100000) (ha : 0 ≤ a ∧ a ≤ 100000) (hw : 1 ≤ w ∧ w ≤ 100000 - a) : 0 ≤ PAway x a w ∧ PAway x a w ≤ 100000 := by
  unfold PAway
  omega
theorem sq_bd {d : Int} (h : 0 ≤ d ∧ d ≤ 100000) : 0 ≤ d * d ∧ d * d ≤ 10000000000 := by
  have h1 : d * d ≤ 100000 * d := Int.mul_le_mul_of_nonneg_right h.2 h.1
  have h2 : 0 ≤ d * d := Int.mul_nonneg h.1 h.1
  omega
theorem spec_away_eq {x a w : Int} (h : 0 ≤ x ∧ x ≤ 100000) (ha : 0 ≤ a ∧ a ≤ 100000) (hw : 1 ≤ w ∧ w ≤ 100000 - a) : spec_l15Away.f x a (wrap64 (a + w)) = some (PAway x a w) := by
  unfold spec_l15Away.f PAway
  rw [w64 (n := a + w) (by omega), w64 (n := a - x) (by omega), w64 (n := x - (a + w)) (by omega), mx_eq, mx_eq]
  congr 1
  omega
theorem spec_Square_eq {K X Y W D x y : Int} (hp : PPlace x y) (ha : PPlace X Y) (hw : 1 ≤ W ∧ W ≤ 100000 - X) (hd : 1 ≤ D ∧ D ≤ 100000 - Y) : spec_l15Square.f K X Y W D x y = some (PSq X Y W D x y) := by
  unfold PPlace at *
  unfold spec_l15Square.f PSq
  rw [spec_away_eq (by omega) (by omega) hw, Option.bind_some, spec_away_eq (by omega) (by omega) hd, Option.bind_some]
  have h1 := sq_bd (PAway_bd (x := x) (a := X) (w := W) (by omega) (by omega) hw)
  have h2 := sq_bd (PAway_bd (x := y) (a := Y) (w := D) (by omega) (by omega) hd)
  rw [w64 (n := PAway x X W * PAway x X W) (by omega), w64 (n := PAway y Y D * PAway y Y D) (by omega), w64 (by omega)]
theorem impl_square_eq {K X Y W D x y : Int} (hp : PPlace x y) (ha : PPlace X Y) (hw : 1 ≤ W ∧ W ≤ 100000 - X) (hd : 1 ≤ D ∧ D ≤ 100000 - Y) : impl_squareTo.f K X Y W D x y = some (PSq X Y W D x y) := by
  unfold PPlace at *
  unfold impl_squareTo.f
  rw [w64 (n := X - x) (by omega), w64 (n := x - X) (by omega), w64 (n := x - X - W) (by omega), w64 (n := Y - y) (by omega), w64 (n := y - Y) (by omega), w64 (n := y - Y - D) (by omega)]
  simp only [mx_eq]
  have h1 := sq_bd (PAway_bd (x := x) (a := X) (w := W) (by omega) (by omega) hw)
  have h2 := sq_bd (PAway_bd (x := y) (a := Y) (w := D) (by omega) (by omega) hd)
  show some (wrap64 (wrap64 (PAway x X W * PAway x X W) + wrap64 (PAway y Y D * PAway y Y D))) = some (PSq X Y W D x y)
  rw [w64 (n := PAway x X W * PAway x X W) (by omega), w64 (n := PAway y Y D * PAway y Y D) (by omega), w64 (by omega)]
  rfl
theorem spec_l15Code_f (l : List S83) (hn : l.length ≤ 140737488351232) (k : Nat) (hk : l.length < k) (kind x y : Int) : spec_l15Code.f k l kind x y = some (if PSite l then (if PPlace x y ∧ 0 ≤ kind ∧ kind ≤ 3 then 0 else 2) else 1) := by
  unfold spec_l15Code.f
  rw [spec_IsSite_f l hn k hk, Option.bind_some]
  by_cases h : PSite l
  · rw [if_pos (decide_eq_true h), if_pos h, spec_place_eq, Option.bind_some]
    by_cases h2 : PPlace x y
    · rw [if_pos (decide_eq_true h2), l01In_eq, Option.bind_some]
      by_cases h3 : 0 ≤ kind ∧ kind ≤ 3
      · rw [if_pos (decide_eq_true h3), if_pos ⟨h2, h3⟩]
      · rw [if_neg (by simpa using h3), if_neg (fun h => h3 h.2)]
    · rw [if_neg (by simpa using h2), if_neg (fun h => h2 h.1)]
  · rw [if_neg (by simpa using h), if_neg h]
theorem impl_IsSite_ev (l : List S83) (hn : l.length ≤ 140737488351232) : Ev (fun k => impl_IsSite.f k l) (decide (PSite l)) := ⟨l.length + 1, fun k hk => impl_IsSite_f l hn k (by omega)⟩
theorem area_at {l : List S83} (h : PSite l) {i : Int} (h0 : 0 ≤ i) (h1 : i < l.length) : PArea (rd_T83 l i).f0 (rd_T83 l i).f1 (rd_T83 l i).f2 (rd_T83 l i).f3 (rd_T83 l i).f4 := by
  have hlt : i.toNat < l.length := by omega
  have e : rd_T83 l i = l[i.toNat] := by
    show l.getD i.toNat _ = _
    rw [List.getD_eq_getElem?_getD, List.getElem?_eq_getElem hlt]
    rfl
  rw [e]
  exact h.2 _ (List.getElem_mem hlt)
/-- The square distance of a place from the area with an index. -/
def sqAt (l : List S83) (x y i : Int) : Int := PSq (rd_T83 l i).f1 (rd_T83 l i).f2 (rd_T83 l i).f3 (rd_T83 l i).f4 x y
theorem spec_sqAt {l : List S83} (h : PSite l) {x y : Int} (hp : PPlace x y) {i : Int} (h0 : 0 ≤ i) (h1 : i < l.length) : spec_l15Square.f (rd_T83 l i).f0 (rd_T83 l i).f1 (rd_T83 l i).f2 (rd_T83 l i).f3 (rd_T83 l i).f4 x y = some (sqAt l x y i) := by
  have ha := area_at h h0 h1
  unfold PArea at ha
  exact spec_Square_eq hp (by unfold PPlace; omega) (by omega) (by omega)
theorem impl_sqAt {l : List S83} (h : PSite l) {x y : Int} (hp : PPlace x y) {i : Int} (h0 : 0 ≤ i) (h1 : i < l.length) : impl_squareTo.f (rd_T83 l i).f0 (rd_T83 l i).f1 (rd_T83 l i).f2 (rd_T83 l i).f3 (rd_T83 l i).f4 x y = some (sqAt l x y i) := by
  have ha := area_at h h0 h1
  unfold PArea at ha
  exact impl_square_eq hp (by unfold PPlace; omega) (by omega) (by omega)
theorem spec_l15Code_ev (l : List S83) (hn : l.length ≤ 140737488351232) (kind x y : Int) : Ev (fun k => spec_l15Code.f k l kind x y) (if PSite l then (if PPlace x y ∧ 0 ≤ kind ∧ kind ≤ 3 then 0 else 2) else 1) := ⟨l.length + 1, fun k hk => spec_l15Code_f l hn k (by omega) kind x y⟩
/-- A demand is right at its place. -/
def PT (l : List S112) (i : Int) : Prop := (0 ≤ (rd_T112 l i).f0 ∧ (rd_T112 l i).f0 ≤ 3) ∧ (20 ≤ (rd_T112 l i).f1 ∧ (rd_T112 l i).f1 ≤ 300) ∧ (0 ≤ (rd_T112 l i).f2 ∧ (rd_T112 l i).f2 ≤ 10000) ∧
  (0 < i → (rd_T112 l (i - 1)).f0 < (rd_T112 l i).f0 ∨ (rd_T112 l (i - 1)).f0 = (rd_T112 l i).f0 ∧ (rd_T112 l (i - 1)).f1 < (rd_T112 l i).f1 ∧ (rd_T112 l (i - 1)).f2 ≤ (rd_T112 l i).f2)
def PTab (l : List S112) : Prop := l.length ≤ 12 ∧ ∀ j : Int, 0 ≤ j → j < l.length → PT l j
theorem before_eq (a b c d e f : Int) : spec_l16Before.f a b c d e f = some (decide (a < d ∨ a = d ∧ b < e)) := by
  unfold spec_l16Before.f
  by_cases h : a < d
  · simp [h]
  · by_cases h2 : a = d <;> simp [h, h2]
theorem spec_IsTable_j1 (l : List S112) (hn : l.length ≤ 140737488351232) (i : Int) (h0 : 0 ≤ i) (h1 : i < l.length)
    (hf : (0 ≤ (rd_T112 l i).f0 ∧ (rd_T112 l i).f0 ≤ 3) ∧ (20 ≤ (rd_T112 l i).f1 ∧ (rd_T112 l i).f1 ≤ 300) ∧ (0 ≤ (rd_T112 l i).f2 ∧ (rd_T112 l i).f2 ≤ 10000)) :
    (PT l i → ∀ r, Ev (fun k => spec_IsTable.l0 k l (i + 1)) r → Ev (fun k => spec_IsTable.j1 k l i false (rd_T112 l i).f0 (rd_T112 l i).f1 (rd_T112 l i).f2) r) ∧
    (¬ PT l i → Ev (fun k => spec_IsTable.j1 k l i false (rd_T112 l i).f0 (rd_T112 l i).f1 (rd_T112 l i).f2) false) := by
  by_cases hi : i > 0
  · have w1 : wrap64 (i - 1) = i - 1 := w64 (by omega)
    have w2 : wrap64 (i + 1) = i + 1 := w64 (by omega)
    refine ⟨fun hp r hr => ?_, fun hp => ?_⟩
    · refine Ev_shift ?_
      simp only [spec_IsTable.j1, Bool.false_eq_true, if_false, if_pos hi, w1, w2, if_pos (show 0 ≤ i - 1 by omega), if_pos (show i - 1 < (l.length : Int) by omega), before_eq, Option.bind_some, decide_eq_true_eq]
      rcases hp.2.2.2 hi with h | ⟨h, h2, h3⟩
      · simp only [if_pos (show (rd_T112 l (i - 1)).f0 < (rd_T112 l i).f0 ∨ (rd_T112 l (i - 1)).f0 = (rd_T112 l i).f0 ∧ (rd_T112 l (i - 1)).f1 < (rd_T112 l i).f1 from .inl h), if_neg (show ¬ (rd_T112 l (i - 1)).f0 = (rd_T112 l i).f0 by omega)]
        exact hr
      · simp only [if_pos (show (rd_T112 l (i - 1)).f0 < (rd_T112 l i).f0 ∨ (rd_T112 l (i - 1)).f0 = (rd_T112 l i).f0 ∧ (rd_T112 l (i - 1)).f1 < (rd_T112 l i).f1 from .inr ⟨h, h2⟩), if_pos h, if_neg (show ¬ (rd_T112 l (i - 1)).f2 > (rd_T112 l i).f2 by omega)]
        exact hr
    · refine Ev_shift ?_
      simp only [spec_IsTable.j1, Bool.false_eq_true, if_false, if_pos hi, w1, w2, if_pos (show 0 ≤ i - 1 by omega), if_pos (show i - 1 < (l.length : Int) by omega), before_eq, Option.bind_some, decide_eq_true_eq]
      by_cases hb : (rd_T112 l (i - 1)).f0 < (rd_T112 l i).f0 ∨ (rd_T112 l (i - 1)).f0 = (rd_T112 l i).f0 ∧ (rd_T112 l (i - 1)).f1 < (rd_T112 l i).f1
      · have h2 : (rd_T112 l (i - 1)).f0 = (rd_T112 l i).f0 := by
          rcases hb with h | h
          · exact absurd ⟨hf.1, hf.2.1, hf.2.2, fun _ => .inl h⟩ hp
          · exact h.1
        have h3 : (rd_T112 l (i - 1)).f2 > (rd_T112 l i).f2 := by
          rcases hb with h | h
          · omega
          · by_cases h4 : (rd_T112 l (i - 1)).f2 ≤ (rd_T112 l i).f2
            · exact absurd ⟨hf.1, hf.2.1, hf.2.2, fun _ => .inr ⟨h.1, h.2, h4⟩⟩ hp
            · omega
        simp only [if_pos hb, if_pos h2, if_pos h3]
        exact Ev.now _
      · simp only [if_neg hb]
        exact Ev.now _
  · refine ⟨fun hp r hr => ?_, fun hp => absurd ⟨hf.1, hf.2.1, hf.2.2, fun h => absurd h hi⟩ hp⟩
    refine Ev_shift ?_
    simp only [spec_IsTable.j1, Bool.false_eq_true, if_false, if_neg hi, w64 (n := i + 1) (by omega)]
    exact hr
theorem spec_IsTable_ev (l : List S112) (hn : l.length ≤ 140737488351232) : Ev (fun k => spec_IsTable.f k l) (tt (PTab l)) := by
  unfold spec_IsTable.f
  have bad : ∀ i a b c, Ev (fun k => spec_IsTable.j1 k l i true a b c) false := fun i a b c => by
    refine Ev_shift ?_
    simp only [spec_IsTable.j1, if_true]
    exact Ev.now _
  have := ev_all (L := fun i k => spec_IsTable.l0 k l i) (P := PT l) (n := l.length) (fin := decide (l.length ≤ 12)) (fun i h0 h1 hp r hr => ?_) (fun i h0 h1 hp => ?_) ?_ l.length 0 (by omega) (by omega)
  · refine Ev_eq this ?_
    rw [← tt_dec, tt_and]
    exact tt_iff ⟨fun h => ⟨h.1, fun j h0 h1 => h.2 j h0 h1⟩, fun h => ⟨h.1, fun j h0 h1 => h.2 j h0 h1⟩⟩
  · refine Ev_shift ?_
    simp only [spec_IsTable.l0, if_pos h1, if_pos h0, l01In_eq, Option.bind_some, decide_eq_true_eq, if_pos hp.1, if_pos hp.2.1, decide_eq_true hp.2.2.1, Bool.not_true]
    exact (spec_IsTable_j1 l hn i h0 h1 ⟨hp.1, hp.2.1, hp.2.2.1⟩).1 hp r hr
  · refine Ev_shift ?_
    simp only [spec_IsTable.l0, if_pos h1, if_pos h0, l01In_eq, Option.bind_some, decide_eq_true_eq]
    by_cases c1 : 0 ≤ (rd_T112 l i).f0 ∧ (rd_T112 l i).f0 ≤ 3
    · by_cases c2 : 20 ≤ (rd_T112 l i).f1 ∧ (rd_T112 l i).f1 ≤ 300
      · by_cases c3 : 0 ≤ (rd_T112 l i).f2 ∧ (rd_T112 l i).f2 ≤ 10000
        · simp only [if_pos c1, if_pos c2, decide_eq_true c3, Bool.not_true]
          exact (spec_IsTable_j1 l hn i h0 h1 ⟨c1, c2, c3⟩).2 hp
        · simp only [if_pos c1, if_pos c2, decide_eq_false c3, Bool.not_false]
          exact bad _ _ _ _
      · simp only [if_pos c1, if_neg c2]
        exact bad _ _ _ _
    · simp only [if_neg c1]
      exact bad _ _ _ _
  · refine Ev_shift ?_
    simp only [spec_IsTable.l0, if_neg (show ¬ (l.length : Int) < l.length by omega)]
    exact Ev_some (by congr 1; exact propext ⟨fun h => by omega, fun h => by omega⟩)
theorem impl_IsTable_j1 (l : List S112) (hn : l.length ≤ 140737488351232) (i : Int) (h0 : 0 ≤ i) (h1 : i < l.length)
    (hf : (0 ≤ (rd_T112 l i).f0 ∧ (rd_T112 l i).f0 ≤ 3) ∧ (20 ≤ (rd_T112 l i).f1 ∧ (rd_T112 l i).f1 ≤ 300) ∧ (0 ≤ (rd_T112 l i).f2 ∧ (rd_T112 l i).f2 ≤ 10000)) :
    (PT l i → ∀ r, Ev (fun k => impl_IsTable.l0 k l l l.length (i + 1)) r → Ev (fun k => impl_IsTable.j1 k l i l l.length i false (rd_T112 l i).f0 (rd_T112 l i).f1 (rd_T112 l i).f2) r) ∧
    (¬ PT l i → Ev (fun k => impl_IsTable.j1 k l i l l.length i false (rd_T112 l i).f0 (rd_T112 l i).f1 (rd_T112 l i).f2) false) := by
  by_cases hi : i > 0
  · have w1 : wrap64 (i - 1) = i - 1 := w64 (by omega)
    have w2 : wrap64 (i + 1) = i + 1 := w64 (by omega)
    refine ⟨fun hp r hr => ?_, fun hp => ?_⟩
    · refine Ev_shift ?_
      simp only [impl_IsTable.j1, Bool.false_eq_true, if_false, if_neg (show ¬ i = 0 by omega), w1, w2, if_pos (show 0 ≤ i - 1 by omega), if_pos (show i - 1 < (l.length : Int) by omega)]
      rcases hp.2.2.2 hi with h | ⟨h, h2, h3⟩
      · simp only [if_neg (show ¬ (rd_T112 l (i - 1)).f0 > (rd_T112 l i).f0 by omega), if_neg (show ¬ (rd_T112 l (i - 1)).f0 = (rd_T112 l i).f0 by omega)]
        exact hr
      · simp only [if_neg (show ¬ (rd_T112 l (i - 1)).f0 > (rd_T112 l i).f0 by omega), if_pos h, if_neg (show ¬ (rd_T112 l (i - 1)).f1 ≥ (rd_T112 l i).f1 by omega), if_neg (show ¬ (rd_T112 l (i - 1)).f2 > (rd_T112 l i).f2 by omega)]
        exact hr
    · refine Ev_shift ?_
      simp only [impl_IsTable.j1, Bool.false_eq_true, if_false, if_neg (show ¬ i = 0 by omega), w1, w2, if_pos (show 0 ≤ i - 1 by omega), if_pos (show i - 1 < (l.length : Int) by omega)]
      by_cases c1 : (rd_T112 l (i - 1)).f0 > (rd_T112 l i).f0
      · simp only [if_pos c1]
        exact Ev.now _
      · by_cases c2 : (rd_T112 l (i - 1)).f0 = (rd_T112 l i).f0
        · by_cases c3 : (rd_T112 l (i - 1)).f1 ≥ (rd_T112 l i).f1
          · simp only [if_neg c1, if_pos c2, if_pos c3]
            exact Ev.now _
          · by_cases c4 : (rd_T112 l (i - 1)).f2 > (rd_T112 l i).f2
            · simp only [if_neg c1, if_pos c2, if_neg c3, if_pos c4]
              exact Ev.now _
            · exact absurd ⟨hf.1, hf.2.1, hf.2.2, fun _ => .inr ⟨c2, by omega, by omega⟩⟩ hp
        · exact absurd ⟨hf.1, hf.2.1, hf.2.2, fun _ => .inl (by omega)⟩ hp
  · refine ⟨fun hp r hr => ?_, fun hp => absurd ⟨hf.1, hf.2.1, hf.2.2, fun h => absurd h hi⟩ hp⟩
    refine Ev_shift ?_
    simp only [impl_IsTable.j1, Bool.false_eq_true, if_false, if_pos (show i = 0 by omega), w64 (n := i + 1) (by omega)]
    exact hr
theorem impl_isCalibre_eq (c : Int) : impl_isCalibre.f c = some (decide (20 ≤ c ∧ c ≤ 300)) := by
  unfold impl_isCalibre.f
  rw [within_eq]; rfl
theorem impl_IsTable_ev (l : List S112) (hn : l.length ≤ 140737488351232) : Ev (fun k => impl_IsTable.f k l) (tt (PTab l)) := by
  unfold impl_IsTable.f
  by_cases hl : (l.length : Int) > 12
  · simp only [if_pos hl]
    exact Ev_some (tt_neg (fun h => by have := h.1; omega)).symm
  · simp only [if_neg hl]
    have bad : ∀ i a b c, Ev (fun k => impl_IsTable.j1 k l i l l.length i true a b c) false := fun i a b c => by
      refine Ev_shift ?_
      simp only [impl_IsTable.j1, if_true]
      exact Ev.now _
    have := ev_all (L := fun i k => impl_IsTable.l0 k l l l.length i) (P := PT l) (n := l.length) (fin := true) (fun i h0 h1 hp r hr => ?_) (fun i h0 h1 hp => ?_) ?_ l.length 0 (by omega) (by omega)
    · refine Ev_eq this ?_
      rw [Bool.true_and]
      exact tt_iff ⟨fun h => ⟨by omega, fun j h0 h1 => h j h0 h1⟩, fun h j h0 h1 => h.2 j h0 h1⟩
    · refine Ev_shift ?_
      simp only [impl_IsTable.l0, if_pos h1, if_pos h0, impl_isKind_eq, impl_isCalibre_eq, within_eq, Option.bind_some, decide_eq_true_eq, if_pos hp.1, if_pos hp.2.1, decide_eq_true hp.2.2.1, Bool.not_true]
      exact (impl_IsTable_j1 l hn i h0 h1 ⟨hp.1, hp.2.1, hp.2.2.1⟩).1 hp r hr
    · refine Ev_shift ?_
      simp only [impl_IsTable.l0, if_pos h1, if_pos h0, impl_isKind_eq, impl_isCalibre_eq, within_eq, Option.bind_some, decide_eq_true_eq]
      by_cases c1 : 0 ≤ (rd_T112 l i).f0 ∧ (rd_T112 l i).f0 ≤ 3
      · by_cases c2 : 20 ≤ (rd_T112 l i).f1 ∧ (rd_T112 l i).f1 ≤ 300
        · by_cases c3 : 0 ≤ (rd_T112 l i).f2 ∧ (rd_T112 l i).f2 ≤ 10000
          · simp only [if_pos c1, if_pos c2, decide_eq_true c3, Bool.not_true]
            exact (impl_IsTable_j1 l hn i h0 h1 ⟨c1, c2, c3⟩).2 hp
          · simp only [if_pos c1, if_pos c2, decide_eq_false c3, Bool.not_false]
            exact bad _ _ _ _
        · simp only [if_pos c1, if_neg c2]
          exact bad _ _ _ _
      · simp only [if_neg c1]
        exact bad _ _ _ _
    · refine Ev_shift ?_
      simp only [impl_IsTable.l0, if_neg (show ¬ (l.length : Int) < l.length by omega)]
      exact Ev.now _
/-- The distance that a table asks for a calibre and a kind, -1 if it is forbidden. -/
def distM (cal kind : Int) : List S112 → Int → Int
  | [], acc => acc
  | d :: s, acc => if d.f0 = kind then (if d.f1 ≥ cal then d.f2 else distM cal kind s (-1)) else distM cal kind s acc
theorem spec_dist_l0 (l : List S112) (hn : l.length ≤ 140737488351232) (cal kind : Int) : ∀ (s : List S112) (i acc : Int), 0 ≤ i → l.drop i.toNat = s → Ev (fun k => spec_l16Distance.l0 k l cal kind acc i) (distM cal kind s acc)
  | [], i, acc, h0, h => by
    refine Ev_shift ?_
    simp only [spec_l16Distance.l0, if_neg (drop_nil h0 h)]
    exact Ev.now _
  | a :: s, i, acc, h0, h => by
    refine Ev_shift ?_
    obtain ⟨h1, h2, h3⟩ := drop_cons z112 h0 h
    have h2' : rd_T112 l i = a := h2
    unfold distM
    by_cases c1 : a.f0 = kind
    · by_cases c2 : a.f1 ≥ cal
      · simp only [spec_l16Distance.l0, if_pos h1, if_pos h0, h2', if_pos c1, if_pos c2]
        exact Ev.now _
      · simp only [spec_l16Distance.l0, if_pos h1, if_pos h0, h2', if_pos c1, if_neg c2, w64 (n := i + 1) (by omega)]
        exact spec_dist_l0 l hn cal kind s (i + 1) (-1) (by omega) h3
    · simp only [spec_l16Distance.l0, if_pos h1, if_pos h0, h2', if_neg c1, w64 (n := i + 1) (by omega)]
      exact spec_dist_l0 l hn cal kind s (i + 1) acc (by omega) h3
theorem spec_dist (l : List S112) (hn : l.length ≤ 140737488351232) (cal kind : Int) : Ev (fun k => spec_l16Distance.f k l cal kind) (distM cal kind l 0) := by
  unfold spec_l16Distance.f
  exact spec_dist_l0 l hn cal kind l 0 0 (by omega) rfl
theorem impl_dist_l0 (l : List S112) (hn : l.length ≤ 140737488351232) (cal kind : Int) : ∀ (s : List S112) (i acc : Int), 0 ≤ i → l.drop i.toNat = s → Ev (fun k => impl_distanceFor.l0 k cal kind acc l l.length i) (distM cal kind s acc)
  | [], i, acc, h0, h => by
    refine Ev_shift ?_
    simp only [impl_distanceFor.l0, if_neg (drop_nil h0 h)]
    exact Ev.now _
  | a :: s, i, acc, h0, h => by
    refine Ev_shift ?_
    obtain ⟨h1, h2, h3⟩ := drop_cons z112 h0 h
    have h2' : rd_T112 l i = a := h2
    unfold distM
    by_cases c1 : a.f0 = kind
    · by_cases c2 : a.f1 ≥ cal
      · simp only [impl_distanceFor.l0, if_pos h1, if_pos h0, h2', if_pos c1, if_pos c2]
        exact Ev.now _
      · simp only [impl_distanceFor.l0, if_pos h1, if_pos h0, h2', if_pos c1, if_neg c2, w64 (n := i + 1) (by omega)]
        exact impl_dist_l0 l hn cal kind s (i + 1) (-1) (by omega) h3
    · simp only [impl_distanceFor.l0, if_pos h1, if_pos h0, h2', if_neg c1, w64 (n := i + 1) (by omega)]
      exact impl_dist_l0 l hn cal kind s (i + 1) acc (by omega) h3
theorem impl_dist (l : List S112) (hn : l.length ≤ 140737488351232) (cal kind : Int) : Ev (fun k => impl_distanceFor.f k l cal kind) (distM cal kind l 0) := by
  unfold impl_distanceFor.f
  exact impl_dist_l0 l hn cal kind l 0 0 (by omega) rfl
theorem table_at {l : List S112} (h : PTab l) : ∀ x ∈ l, (0 ≤ x.f0 ∧ x.f0 ≤ 3) ∧ (20 ≤ x.f1 ∧ x.f1 ≤ 300) ∧ (0 ≤ x.f2 ∧ x.f2 ≤ 10000) := by
  intro x hx
  obtain ⟨i, hi, rfl⟩ := List.mem_iff_getElem.1 hx
  have hp := h.2 (i : Int) (by omega) (by omega)
  have e : rd_T112 l (i : Int) = l[i] := by
    show l.getD _ _ = _
    rw [Int.toNat_natCast, List.getD_eq_getElem?_getD, List.getElem?_eq_getElem hi]
    rfl
  unfold PT at hp
  rw [e] at hp
  exact ⟨hp.1, hp.2.1, hp.2.2.1⟩
theorem dist_bd_ {cal kind : Int} : ∀ (s : List S112) (acc : Int), (∀ x ∈ s, 0 ≤ x.f2 ∧ x.f2 ≤ 10000) → -1 ≤ acc → acc ≤ 0 → -1 ≤ distM cal kind s acc ∧ distM cal kind s acc ≤ 10000
  | [], acc, _, h1, h2 => by
    unfold distM
    omega
  | d :: s, acc, h, h1, h2 => by
    unfold distM
    have hd := h d (by simp)
    split
    · split
      · omega
      · exact dist_bd_ s (-1) (fun x hx => h x (by simp [hx])) (by omega) (by omega)
    · exact dist_bd_ s acc (fun x hx => h x (by simp [hx])) h1 h2
theorem dist_bd {t : List S112} (h : PTab t) (cal kind : Int) : -1 ≤ distM cal kind t 0 ∧ distM cal kind t 0 ≤ 10000 :=
  dist_bd_ t 0 (fun x hx => (table_at h x hx).2.2) (by omega) (by omega)
theorem dd_bd {d : Int} (h : -1 ≤ d ∧ d ≤ 10000) : 0 ≤ d * d ∧ d * d ≤ 100000000 := by
  rcases Int.lt_or_le d 0 with c | c
  · have e : d = -1 := by omega
    rw [e]
    decide
  · have h1 := Int.mul_nonneg c c
    have h2 := Int.mul_self_le_mul_self c h.2
    omega
/-- A calibre is not allowed because of the area with an index. -/
def agP (t : List S112) (l : List S83) (c x y i : Int) : Prop := distM c (rd_T83 l i).f0 t 0 < 0 ∨ sqAt l x y i < distM c (rd_T83 l i).f0 t 0 * distM c (rd_T83 l i).f0 t 0
instance (t : List S112) (l : List S83) (c x y i : Int) : Decidable (agP t l c x y i) := by unfold agP; infer_instance
def agF (t : List S112) (l : List S83) (c x y : Int) : List Int := idxF (fun i => decide (agP t l c x y i)) l.length 0
theorem spec_ag {t : List S112} (ht : PTab t) {l : List S83} (h : PSite l) {x y : Int} (hp : PPlace x y) (c : Int) : Ev (fun k => spec_l16Against.f k t l c x y) (agF t l c x y) := by
  have hl := h.1
  have htl := ht.1
  unfold spec_l16Against.f
  have := ev_filter (L := fun i out k => spec_l16Against.l0 k t l c x y out i) (p := fun i => decide (agP t l c x y i)) (n := l.length) (fin := fun out => out)
    (fun i out h0 h1 h2 hp' r hr => by
      have hb := dd_bd (dist_bd ht c (rd_T83 l i).f0)
      refine Ev_shift ?_
      simp only [spec_l16Against.l0, if_pos h1, if_pos h0]
      refine Ev.bind (spec_dist t (by omega) c _) ?_
      rcases of_decide_eq_true hp' with g | g
      · simp only [if_pos g, if_pos (show out.length < 17592186044416 by omega), w64 (n := i + 1) (by omega)]
        exact hr
      · by_cases g2 : distM c (rd_T83 l i).f0 t 0 < 0
        · simp only [if_pos g2, if_pos (show out.length < 17592186044416 by omega), w64 (n := i + 1) (by omega)]
          exact hr
        · simp only [if_neg g2, spec_sqAt h hp h0 h1, Option.bind_some, w64 (n := distM c (rd_T83 l i).f0 t 0 * distM c (rd_T83 l i).f0 t 0) (by omega), if_pos g, if_pos (show out.length < 17592186044416 by omega), w64 (n := i + 1) (by omega)]
          exact hr)
    (fun i out h0 h1 h2 hp' r hr => by
      have hb := dd_bd (dist_bd ht c (rd_T83 l i).f0)
      have hn := of_decide_eq_false hp'
      refine Ev_shift ?_
      simp only [spec_l16Against.l0, if_pos h1, if_pos h0]
      refine Ev.bind (spec_dist t (by omega) c _) ?_
      simp only [if_neg (fun g => hn (.inl g)), spec_sqAt h hp h0 h1, Option.bind_some, w64 (n := distM c (rd_T83 l i).f0 t 0 * distM c (rd_T83 l i).f0 t 0) (by omega), if_neg (fun g => hn (.inr g)), w64 (n := i + 1) (by omega)]
      exact hr)
    (fun out h2 => by
      refine Ev_shift ?_
      simp only [spec_l16Against.l0, if_neg (show ¬ (l.length : Int) < l.length by omega)]
      exact Ev.now _) l.length 0 [] (by omega) (by omega) (by simp)
  exact this
theorem impl_ag {t : List S112} (ht : PTab t) {l : List S83} (h : PSite l) {x y : Int} (hp : PPlace x y) (c : Int) : Ev (fun k => impl_areasAgainst.f k t l c x y) (agF t l c x y) := by
  have hl := h.1
  have htl := ht.1
  unfold impl_areasAgainst.f
  have := ev_filter (L := fun i out k => impl_areasAgainst.l0 k t c x y out l l.length i) (p := fun i => decide (agP t l c x y i)) (n := l.length) (fin := fun out => out)
    (fun i out h0 h1 h2 hp' r hr => by
      have hb := dd_bd (dist_bd ht c (rd_T83 l i).f0)
      refine Ev_shift ?_
      simp only [impl_areasAgainst.l0, if_pos h1, if_pos h0]
      refine Ev.bind (impl_dist t (by omega) c _) ?_
      rcases of_decide_eq_true hp' with g | g
      · simp only [if_pos g, if_pos (show out.length < 17592186044416 by omega), w64 (n := i + 1) (by omega)]
        exact hr
      · by_cases g2 : distM c (rd_T83 l i).f0 t 0 < 0
        · simp only [if_pos g2, if_pos (show out.length < 17592186044416 by omega), w64 (n := i + 1) (by omega)]
          exact hr
        · simp only [if_neg g2, impl_sqAt h hp h0 h1, Option.bind_some, w64 (n := distM c (rd_T83 l i).f0 t 0 * distM c (rd_T83 l i).f0 t 0) (by omega), if_pos g, if_pos (show out.length < 17592186044416 by omega), w64 (n := i + 1) (by omega)]
          exact hr)
    (fun i out h0 h1 h2 hp' r hr => by
      have hb := dd_bd (dist_bd ht c (rd_T83 l i).f0)
      have hn := of_decide_eq_false hp'
      refine Ev_shift ?_
      simp only [impl_areasAgainst.l0, if_pos h1, if_pos h0]
      refine Ev.bind (impl_dist t (by omega) c _) ?_
      simp only [if_neg (fun g => hn (.inl g)), impl_sqAt h hp h0 h1, Option.bind_some, w64 (n := distM c (rd_T83 l i).f0 t 0 * distM c (rd_T83 l i).f0 t 0) (by omega), if_neg (fun g => hn (.inr g)), w64 (n := i + 1) (by omega)]
      exact hr)
    (fun out h2 => by
      refine Ev_shift ?_
      simp only [impl_areasAgainst.l0, if_neg (show ¬ (l.length : Int) < l.length by omega)]
      exact Ev.now _) l.length 0 [] (by omega) (by omega) (by simp)
  exact this
theorem l16Code_ev (t : List S112) (hn : t.length ≤ 1000000) (l : List S83) (hl : l.length ≤ 1000000) (c x y : Int) : Ev (fun k => spec_l16Code.f k t l c x y) (if tt (PTab t) = true ∧ PSite l then (if PPlace x y ∧ 20 ≤ c ∧ c ≤ 300 then 0 else 2) else 1) := by
  unfold spec_l16Code.f
  refine Ev.bind (spec_IsTable_ev t (by omega)) ?_
  by_cases h : PTab t
  · simp only [tt_pos h, if_true, true_and]
    refine Ev.bind (spec_l15Code_ev l (by omega) 0 x y) ?_
    by_cases h2 : PSite l
    · by_cases h3 : PPlace x y
      · simp only [if_pos h2, if_pos (show PPlace x y ∧ (0 : Int) ≤ 0 ∧ (0 : Int) ≤ 3 from ⟨h3, by omega, by omega⟩), if_true, l01In_eq, Option.bind_some]
        by_cases h4 : 20 ≤ c ∧ c ≤ 300
        · simp only [decide_eq_true h4, if_pos (show PPlace x y ∧ 20 ≤ c ∧ c ≤ 300 from ⟨h3, h4⟩), if_true]
          exact Ev.now _
        · simp only [decide_eq_false h4, if_neg (show ¬ (PPlace x y ∧ 20 ≤ c ∧ c ≤ 300) from fun g => h4 g.2), Bool.false_eq_true, if_false]
          exact Ev.now _
      · simp only [if_pos h2, if_neg (show ¬ (PPlace x y ∧ (0 : Int) ≤ 0 ∧ (0 : Int) ≤ 3) from fun g => h3 g.1), if_neg (show ¬ (PPlace x y ∧ 20 ≤ c ∧ c ≤ 300) from fun g => h3 g.1), if_neg (show ¬ (2 : Int) = 0 by decide)]
        exact Ev.now _
    · simp only [if_neg h2, if_neg (show ¬ (1 : Int) = 0 by decide)]
      exact Ev.now _
  · simp only [tt_neg h, Bool.false_eq_true, if_false, false_and]
    exact Ev.now _
theorem agree_AreasAgainst (m0 : List S112) (m1 : List S83) (a2 : Int) (a3 : Int) (a4 : Int) (hn0 : m0.length ≤ 1000000) (hq0 : ∀ x ∈ m0, (I64 x.f0 ∧ I64 x.f1 ∧ I64 x.f2)) (hn1 : m1.length ≤ 1000000) (hq1 : ∀ x ∈ m1, (I64 x.f0 ∧ I64 x.f1 ∧ I64 x.f2 ∧ I64 x.f3 ∧ I64 x.f4)) (q2 : I64 a2) (q3 : I64 a3) (q4 : I64 a4) : ∃ (K : Nat) (r1 : List Int) (r2 : Int), r1.length ≤ 10000000 ∧ ∀ k, K ≤ k → spec_AreasAgainst.f k m0 m1 a2 a3 a4 = some (r1, r2) ∧ impl_AreasAgainst.f k m0 m1 a2 a3 a4 = some (r1, r2) := by
  have fin : ∀ q : List Int × Int, q.1.length ≤ 10000000 → Ev (fun k => spec_AreasAgainst.f k m0 m1 a2 a3 a4) q → Ev (fun k => impl_AreasAgainst.f k m0 m1 a2 a3 a4) q → ∃ (K : Nat) (r1 : List Int) (r2 : Int), r1.length ≤ 10000000 ∧ ∀ k, K ≤ k → spec_AreasAgainst.f k m0 m1 a2 a3 a4 = some (r1, r2) ∧ impl_AreasAgainst.f k m0 m1 a2 a3 a4 = some (r1, r2) := by
    rintro ⟨x, y⟩ hq e1 e2
    obtain ⟨K, hk⟩ := Ev_both e1 e2
    exact ⟨K, x, y, hq, hk⟩
  have hs := l16Code_ev m0 hn0 m1 hn1 a2 a3 a4
  have ht := impl_IsTable_ev m0 (by omega)
  have hi := impl_IsSite_ev m1 (by omega)
  have bad : ¬ (tt (PTab m0) = true ∧ PSite m1) → ∃ (K : Nat) (r1 : List Int) (r2 : Int), r1.length ≤ 10000000 ∧ ∀ k, K ≤ k → spec_AreasAgainst.f k m0 m1 a2 a3 a4 = some (r1, r2) ∧ impl_AreasAgainst.f k m0 m1 a2 a3 a4 = some (r1, r2) := fun h => by
    rw [if_neg h] at hs
    have j : Ev (fun k => impl_AreasAgainst.j0 k m0 m1 a2 a3 a4 true) (([] : List Int), (1 : Int)) := by
      refine Ev_shift ?_
      simp only [impl_AreasAgainst.j0, if_true]
      exact Ev.now _
    refine fin ([], 1) (by simp) ?_ ?_
    · unfold spec_AreasAgainst.f
      refine Ev.bind hs ?_
      simp only [if_neg (show ¬ (1 : Int) = 0 by decide)]
      exact Ev.now _
    · unfold impl_AreasAgainst.f
      refine Ev.bind ht ?_
      by_cases g : PTab m0
      · have g2 : ¬ PSite m1 := fun x => h ⟨tt_pos g, x⟩
        simp only [tt_pos g, if_true]
        refine Ev.bind hi ?_
        simp only [decide_eq_false g2, Bool.not_false]
        exact j
      · simp only [tt_neg g, Bool.false_eq_true, if_false]
        exact j
  by_cases h : PTab m0
  · by_cases h2 : PSite m1
    · rw [if_pos ⟨tt_pos h, h2⟩] at hs
      have hl := h2.1
      have jump : ∀ q, Ev (fun k => impl_AreasAgainst.j0 k m0 m1 a2 a3 a4 false) q → Ev (fun k => impl_AreasAgainst.f k m0 m1 a2 a3 a4) q := fun q hq => by
        unfold impl_AreasAgainst.f
        refine Ev.bind ht ?_
        simp only [tt_pos h, if_true]
        refine Ev.bind hi ?_
        simp only [decide_eq_true h2, Bool.not_true]
        exact hq
      by_cases c : PPlace a3 a4 ∧ 20 ≤ a2 ∧ a2 ≤ 300
      · rw [if_pos c] at hs
        have hlen := idxF_length (fun i => decide (agP m0 m1 a2 a3 a4 i)) m1.length 0
        refine fin (agF m0 m1 a2 a3 a4, 0) (by show List.length (idxF _ _ _) ≤ _; omega) ?_ (jump _ ?_)
        · unfold spec_AreasAgainst.f
          refine Ev.bind hs ?_
          simp only [if_true]
          exact Ev.bind (spec_ag h h2 c.1 a2) (Ev.now _)
        · refine Ev_shift ?_
          simp only [impl_AreasAgainst.j0, Bool.false_eq_true, if_false, impl_isCalibre_eq, impl_place_eq, Option.bind_some, decide_eq_true c.1, decide_eq_true c.2, if_true]
          exact Ev.bind (impl_ag h h2 c.1 a2) (Ev.now _)
      · rw [if_neg c] at hs
        refine fin ([], 2) (by simp) ?_ (jump _ ?_)
        · unfold spec_AreasAgainst.f
          refine Ev.bind hs ?_
          simp only [if_neg (show ¬ (2 : Int) = 0 by decide)]
          exact Ev.now _
        · refine Ev_shift ?_
          simp only [impl_AreasAgainst.j0, Bool.false_eq_true, if_false, impl_isCalibre_eq, impl_place_eq, Option.bind_some]
          by_cases g : 20 ≤ a2 ∧ a2 ≤ 300
          · have g2 : ¬ PPlace a3 a4 := fun x => c ⟨x, g⟩
            simp only [decide_eq_true g, decide_eq_false g2, if_true, Bool.false_eq_true, if_false]
            exact Ev.now _
          · simp only [decide_eq_false g, Bool.false_eq_true, if_false]
            exact Ev.now _
    · exact bad (fun g => h2 g.2)
  · exact bad (fun g => h (tt_eq_true.1 g.1))
end Go.Proofs.Ytalcbcelalbhiaa.Pure
