/- The plain law of FnExactAreasWithin: what the printed functions compute, without Go and memory. No condition but the bounds that stand in it. -/
import Derived.Test.YtffnhobhpfnimaaPFnExactAreasWithinx0
import Derived.Test.YtffnhobhpfnimaaQFnExactAreasWithina
import Derived.Test.YtffnhobhpfnimaaQFnExactAreasWithinb
import Derived.Test.YtffnhobhpfnimaaQFnExactAreasWithinc
import Derived.Test.YtffnhobhpfnimaaQFnExactAreasWithind
import Derived.Test.YtffnhobhpfnimaaOpen
namespace Go.Proofs.Ytffnhobhpfnimaa.Pure
open Go.RowKit Go.Proofs.Ytffnhobhpfnimaa.PFnExactAreasWithin Go.Proofs.YtffnhobhpfnimaaW.PrintWords Go.Proofs.YtffnhobhpfnimaaW.PrintLast Go.Proofs.Ytffnhobhpfnimaa.Opening
set_option linter.unusedVariables false
set_option linter.unusedSimpArgs false
theorem w64 {n : Int} (h : -9223372036854775808 ≤ n ∧ n ≤ 9223372036854775807) : wrap64 n = n := by
  unfold wrap64
  omega
theorem dec_and {p q : Prop} [Decidable p] [Decidable q] : (if decide p = true then some (decide q) else some false) = some (decide (p ∧ q)) := by
  by_cases h : p <;> simp [h]
theorem l01In_eq (a b c : Int) : spec_l01In.f a b c = some (decide (b ≤ a ∧ a ≤ c)) := by
  unfold spec_l01In.f
  by_cases h : b ≤ a <;> simp [h]
theorem within_eq (a b c : Int) : impl_within.f a b c = some (decide (b ≤ a ∧ a ≤ c)) := by
  unfold impl_within.f
  by_cases h : b ≤ a <;> simp [h]
theorem drop_cons {α : Type} {l : List α} {i : Int} {a : α} {s : List α} (z : α) (h0 : 0 ≤ i) (h : l.drop i.toNat = a :: s) : i < l.length ∧ l.getD i.toNat z = a ∧ l.drop (i + 1).toNat = s := by
  have hlt : i.toNat < l.length := by
    rcases Nat.lt_or_ge i.toNat l.length with h1 | h1
    · exact h1
    · rw [List.drop_eq_nil_of_le h1] at h; cases h
  rw [List.drop_eq_getElem_cons hlt] at h
  injection h with h1 h2
  refine ⟨by omega, ?_, ?_⟩
  · rw [List.getD_eq_getElem?_getD, List.getElem?_eq_getElem hlt]; exact h1
  · rw [show (i + 1).toNat = i.toNat + 1 by omega]; exact h2
theorem drop_nil {α : Type} {l : List α} {i : Int} (h0 : 0 ≤ i) (h : l.drop i.toNat = []) : ¬ i < (l.length : Int) := by
  have := List.drop_eq_nil_iff.1 h
  omega
theorem Ev_shift {α : Type} {g : Nat → Option α} {r : α} (h : Ev (fun k => g (k + 1)) r) : Ev g r := Ev.step (fun _ => rfl) h
theorem Ev_both {α β : Type} {g : Nat → Option α} {f : Nat → Option β} {r : α} {q : β} (h1 : Ev g r) (h2 : Ev f q) : ∃ K, ∀ k, K ≤ k → g k = some r ∧ f k = some q := by
  obtain ⟨K, h1⟩ := h1
  obtain ⟨K', h2⟩ := h2
  exact ⟨max K K', fun k hk => ⟨h1 k (by omega), h2 k (by omega)⟩⟩
/-- The numbers from i on, d of them looked at, that are told true. -/
def idxF (p : Int → Bool) : Nat → Int → List Int
  | 0, _ => []
  | d + 1, i => if p i = true then i :: idxF p d (i + 1) else idxF p d (i + 1)
theorem idxF_length (p : Int → Bool) : ∀ (d : Nat) (i : Int), (idxF p d i).length ≤ d
  | 0, _ => Nat.le_refl _
  | d + 1, i => by
    unfold idxF
    have := idxF_length p d (i + 1)
    split
    · simp only [List.length_cons]
      omega
    · omega
theorem ev_filter {ρ : Type} {L : Int → List Int → Nat → Option ρ} {p : Int → Bool} {n : Int} {fin : List Int → ρ}
    (h1 : ∀ (i : Int) (out : List Int), 0 ≤ i → i < n → (out.length : Int) ≤ i → p i = true → ∀ r, Ev (L (i + 1) (out ++ [i])) r → Ev (L i out) r)
    (h2 : ∀ (i : Int) (out : List Int), 0 ≤ i → i < n → (out.length : Int) ≤ i → p i = false → ∀ r, Ev (L (i + 1) out) r → Ev (L i out) r)
    (h3 : ∀ out : List Int, (out.length : Int) ≤ n → Ev (L n out) (fin out)) :
    ∀ (d : Nat) (i : Int) (out : List Int), 0 ≤ i → i + d = n → (out.length : Int) ≤ i → Ev (L i out) (fin (out ++ idxF p d i))
  | 0, i, out, h0, hd, hl => by
    have e : i = n := by omega
    subst e
    simp only [idxF, List.append_nil]
    exact h3 out hl
  | d + 1, i, out, h0, hd, hl => by
    unfold idxF
    cases hp : p i with
    | true =>
      refine h1 i out h0 (by omega) hl hp _ ?_
      have := ev_filter h1 h2 h3 d (i + 1) (out ++ [i]) (by omega) (by omega) (by simp; omega)
      simpa using this
    | false =>
      refine h2 i out h0 (by omega) hl hp _ ?_
      have := ev_filter h1 h2 h3 d (i + 1) out (by omega) (by omega) (by omega)
      simpa using this
def PPlace (x y : Int) : Prop := 0 ≤ x ∧ x ≤ 100000 ∧ 0 ≤ y ∧ y ≤ 100000
instance (x y : Int) : Decidable (PPlace x y) := by unfold PPlace; infer_instance
def PArea (k x y w d : Int) : Prop := 0 ≤ k ∧ k ≤ 3 ∧ 0 ≤ x ∧ x ≤ 100000 ∧ 0 ≤ y ∧ y ≤ 100000 ∧ 1 ≤ w ∧ w ≤ 100000 - x ∧ 1 ≤ d ∧ d ≤ 100000 - y
instance (k x y w d : Int) : Decidable (PArea k x y w d) := by unfold PArea; infer_instance
theorem spec_place_eq (x y : Int) : spec_l15Place.f x y = some (decide (PPlace x y)) := by
  unfold spec_l15Place.f PPlace
  simp only [l01In_eq, Option.bind_some]
  rw [dec_and]
  congr 2
  exact propext ⟨fun h => by omega, fun h => by omega⟩
theorem impl_place_eq (x y : Int) : impl_isPlace.f x y = some (decide (PPlace x y)) := by
  unfold impl_isPlace.f PPlace
  simp only [within_eq, Option.bind_some]
  rw [dec_and]
  congr 2
  exact propext ⟨fun h => by omega, fun h => by omega⟩
theorem impl_isKind_eq (k : Int) : impl_isKind.f k = some (decide (0 ≤ k ∧ k ≤ 3)) := by
  unfold impl_isKind.f
  rw [within_eq]; rfl
theorem spec_IsArea_eq (k x y w d : Int) : spec_IsArea.f k x y w d = some (decide (PArea k x y w d)) := by
  unfold spec_IsArea.f
  simp only [l01In_eq, spec_place_eq, Option.bind_some]
  by_cases h1 : 0 ≤ k ∧ k ≤ 3
  · rw [if_pos (decide_eq_true h1)]
    by_cases h2 : PPlace x y
    · rw [if_pos (decide_eq_true h2)]
      unfold PPlace at h2
      rw [w64 (by omega), w64 (by omega), dec_and]
      congr 2
      unfold PArea
      exact propext ⟨fun h => by omega, fun h => by omega⟩
    · rw [if_neg (by simpa using h2), decide_eq_false (fun h => h2 (by unfold PArea at h; unfold PPlace; omega))]
  · rw [if_neg (by simpa using h1), decide_eq_false (fun h => h1 (by unfold PArea at h; omega))]
theorem impl_IsArea_eq (k x y w d : Int) : impl_IsArea.f k x y w d = some (decide (PArea k x y w d)) := by
  unfold impl_IsArea.f
  simp only [within_eq, impl_isKind_eq, impl_place_eq, Option.bind_some]
  by_cases h1 : 0 ≤ k ∧ k ≤ 3
  · rw [if_pos (decide_eq_true h1)]
    by_cases h2 : PPlace x y
    · rw [if_pos (decide_eq_true h2)]
      unfold PPlace at h2
      rw [w64 (by omega), w64 (by omega), dec_and]
      congr 2
      unfold PArea
      exact propext ⟨fun h => by omega, fun h => by omega⟩
    · rw [if_neg (by simpa using h2), decide_eq_false (fun h => h2 (by unfold PArea at h; unfold PPlace; omega))]
  · rw [if_neg (by simpa using h1), decide_eq_false (fun h => h1 (by unfold PArea at h; omega))]
def PSite (l : List S63) : Prop := l.length ≤ 10 ∧ ∀ a ∈ l, PArea a.f0 a.f1 a.f2 a.f3 a.f4
instance (l : List S63) : Decidable (PSite l) := by unfold PSite; infer_instance
theorem spec_IsSite_l0 (l : List S63) (hn : l.length ≤ 140737488351232) : ∀ (s : List S63) (i : Int) (k : Nat), 0 ≤ i → l.drop i.toNat = s → s.length < k → spec_IsSite.l0 k l i = some (decide (l.length ≤ 10 ∧ ∀ a ∈ s, PArea a.f0 a.f1 a.f2 a.f3 a.f4))
  | [], i, k, h0, h, hk => by
    obtain ⟨k, rfl⟩ : ∃ m, k = m + 1 := ⟨k - 1, by omega⟩
    simp only [spec_IsSite.l0]
    rw [if_neg (drop_nil h0 h)]
    congr 2
    simp
    omega
  | a :: s, i, k, h0, h, hk => by
    obtain ⟨k, rfl⟩ : ∃ m, k = m + 1 := ⟨k - 1, by simp at hk; omega⟩
    obtain ⟨h1, h2, h3⟩ := drop_cons z63 h0 h
    have h2' : rd_T63 l i = a := h2
    simp only [spec_IsSite.l0]
    rw [if_pos h1, if_pos h0, h2', spec_IsArea_eq, Option.bind_some]
    by_cases hp : PArea a.f0 a.f1 a.f2 a.f3 a.f4
    · rw [if_pos (decide_eq_true hp), w64 (by omega), spec_IsSite_l0 l hn s (i + 1) k (by omega) h3 (by simpa using hk)]
      congr 2
      simp [hp]
    · rw [if_neg (by simpa using hp)]
      congr 1
      simp [hp]
theorem spec_IsSite_f (l : List S63) (hn : l.length ≤ 140737488351232) (k : Nat) (hk : l.length < k) : spec_IsSite.f k l = some (decide (PSite l)) := by
  unfold spec_IsSite.f PSite
  exact spec_IsSite_l0 l hn l 0 k (by omega) rfl hk
theorem impl_IsSite_l0 (l : List S63) (hn : l.length ≤ 140737488351232) : ∀ (s : List S63) (i : Int) (k : Nat), 0 ≤ i → l.drop i.toNat = s → s.length < k → impl_IsSite.l0 k l l.length i = some (decide (∀ a ∈ s, PArea a.f0 a.f1 a.f2 a.f3 a.f4))
  | [], i, k, h0, h, hk => by
    obtain ⟨k, rfl⟩ : ∃ m, k = m + 1 := ⟨k - 1, by omega⟩
    simp only [impl_IsSite.l0]
    rw [if_neg (drop_nil h0 h)]
    simp
  | a :: s, i, k, h0, h, hk => by
    obtain ⟨k, rfl⟩ : ∃ m, k = m + 1 := ⟨k - 1, by simp at hk; omega⟩
    obtain ⟨h1, h2, h3⟩ := drop_cons z63 h0 h
    have h2' : rd_T63 l i = a := h2
    simp only [impl_IsSite.l0]
    rw [if_pos h1, if_pos h0, if_pos h1, h2', impl_IsArea_eq, Option.bind_some]
    by_cases hp : PArea a.f0 a.f1 a.f2 a.f3 a.f4
    · rw [if_pos (decide_eq_true hp), w64 (by omega), impl_IsSite_l0 l hn s (i + 1) k (by omega) h3 (by simpa using hk)]
      congr 2
      simp [hp]
    · rw [if_neg (by simpa using hp)]
      congr 1
      simp [hp]
theorem impl_IsSite_f (l : List S63) (hn : l.length ≤ 140737488351232) (k : Nat) (hk : l.length < k) : impl_IsSite.f k l = some (decide (PSite l)) := by
  unfold impl_IsSite.f
  rw [impl_IsSite_l0 l hn l 0 k (by omega) rfl hk]
  by_cases h : (l.length : Int) > 10
  · rw [if_pos h, decide_eq_false (p := PSite l) (fun hh => by have := hh.1; omega)]
  · rw [if_neg h]
    congr 1
    exact decide_eq_decide.2 ⟨fun hh => (⟨by omega, hh⟩ : PSite l), fun hh => hh.2⟩
/-- How far a coordinate is from a range. -/
def PAway (x a w : Int) : Int := max (max 0 (a - x)) (x - a - w)
def PSq (X Y W D x y : Int) : Int := PAway x X W * PAway x X W + PAway y Y D * PAway y Y D
theorem mx_eq (a b : Int) : mx a b = max a b := by
  unfold mx
  omega
theorem PAway_bd {x a w : Int} (h : 0 ≤ x ∧ x ≤ 100000) (ha : 0 ≤ a ∧ a ≤ 100000) (hw : 1 ≤ w ∧ w ≤ 100000 - a) : 0 ≤ PAway x a w ∧ PAway x a w ≤ 100000 := by
  unfold PAway
  omega
theorem sq_bd {d : Int} (h : 0 ≤ d ∧ d ≤ 100000) : 0 ≤ d * d ∧ d * d ≤ 10000000000 := by
  have h1 : d * d ≤ 100000 * d := Int.mul_le_mul_of_nonneg_right h.2 h.1
  have h2 : 0 ≤ d * d := Int.mul_nonneg h.1 h.1
  omega
theorem spec_away_eq {x a w : Int} (h : 0 ≤ x ∧ x ≤ 100000) (ha : 0 ≤ a ∧ a ≤ 100000) (hw : 1 ≤ w ∧ w ≤ 100000 - a) : spec_l15Away.f x a (wrap64 (a + w)) = some (PAway x a w) := by
  unfold spec_l15Away.f PAway
  rw [w64 (n := a + w) (by omega), w64 (n := a - x) (by omega), w64 (n := x - (a + w)) (by omega), mx_eq, mx_eq]
  congr 1
  omega
theorem spec_Square_eq {K X Y W D x y : Int} (hp : PPlace x y) (ha : PPlace X Y) (hw : 1 ≤ W ∧ W ≤ 100000 - X) (hd : 1 ≤ D ∧ D ≤ 100000 - Y) : spec_l15Square.f K X Y W D x y = some (PSq X Y W D x y) := by
  unfold PPlace at *
  unfold spec_l15Square.f PSq
  rw [spec_away_eq (by omega) (by omega) hw, Option.bind_some, spec_away_eq (by omega) (by omega) hd, Option.bind_some]
  have h1 := sq_bd (PAway_bd (x := x) (a := X) (w := W) (by omega) (by omega) hw)
  have h2 := sq_bd (PAway_bd (x := y) (a := Y) (w := D) (by omega) (by omega) hd)
  rw [w64 (n := PAway x X W * PAway x X W) (by omega), w64 (n := PAway y Y D * PAway y Y D) (by omega), w64 (by omega)]
theorem impl_square_eq {K X Y W D x y : Int} (hp : PPlace x y) (ha : PPlace X Y) (hw : 1 ≤ W ∧ W ≤ 100000 - X) (hd : 1 ≤ D ∧ D ≤ 100000 - Y) : impl_squareTo.f K X Y W D x y = some (PSq X Y W D x y) := by
  unfold PPlace at *
  unfold impl_squareTo.f
  rw [w64 (n := X - x) (by omega), w64 (n := x - X) (by omega), w64 (n := x - X - W) (by omega), w64 (n := Y - y) (by omega), w64 (n := y - Y) (by omega), w64 (n := y - Y - D) (by omega)]
  simp only [mx_eq]
  have h1 := sq_bd (PAway_bd (x := x) (a := X) (w := W) (by omega) (by omega) hw)
  have h2 := sq_bd (PAway_bd (x := y) (a := Y) (w := D) (by omega) (by omega) hd)
  show some (wrap64 (wrap64 (PAway x X W * PAway x X W) + wrap64 (PAway y Y D * PAway y Y D))) = some (PSq X Y W D x y)
  rw [w64 (n := PAway x X W * PAway x X W) (by omega), w64 (n := PAway y Y D * PAway y Y D) (by omega), w64 (by omega)]
  rfl
theorem spec_l15Code_f (l : List S63) (hn : l.length ≤ 140737488351232) (k : Nat) (hk : l.length < k) (kind x y : Int) : spec_l15Code.f k l kind x y = some (if PSite l then (if PPlace x y ∧ 0 ≤ kind ∧ kind ≤ 3 then 0 else 2) else 1) := by
  unfold spec_l15Code.f
  rw [spec_IsSite_f l hn k hk, Option.bind_some]
  by_cases h : PSite l
  · rw [if_pos (decide_eq_true h), if_pos h, spec_place_eq, Option.bind_some]
    by_cases h2 : PPlace x y
    · rw [if_pos (decide_eq_true h2), l01In_eq, Option.bind_some]
      by_cases h3 : 0 ≤ kind ∧ kind ≤ 3
      · rw [if_pos (decide_eq_true h3), if_pos ⟨h2, h3⟩]
      · rw [if_neg (by simpa using h3), if_neg (fun h => h3 h.2)]
    · rw [if_neg (by simpa using h2), if_neg (fun h => h2 h.1)]
  · rw [if_neg (by simpa using h), if_neg h]
theorem impl_IsSite_ev (l : List S63) (hn : l.length ≤ 140737488351232) : Ev (fun k => impl_IsSite.f k l) (decide (PSite l)) := ⟨l.length + 1, fun k hk => impl_IsSite_f l hn k (by omega)⟩
theorem area_at {l : List S63} (h : PSite l) {i : Int} (h0 : 0 ≤ i) (h1 : i < l.length) : PArea (rd_T63 l i).f0 (rd_T63 l i).f1 (rd_T63 l i).f2 (rd_T63 l i).f3 (rd_T63 l i).f4 := by
  have hlt : i.toNat < l.length := by omega
  have e : rd_T63 l i = l[i.toNat] := by
    show l.getD i.toNat _ = _
    rw [List.getD_eq_getElem?_getD, List.getElem?_eq_getElem hlt]
    rfl
  rw [e]
  exact h.2 _ (List.getElem_mem hlt)
/-- The square distance of a place from the area with an index. -/
def sqAt (l : List S63) (x y i : Int) : Int := PSq (rd_T63 l i).f1 (rd_T63 l i).f2 (rd_T63 l i).f3 (rd_T63 l i).f4 x y
theorem spec_sqAt {l : List S63} (h : PSite l) {x y : Int} (hp : PPlace x y) {i : Int} (h0 : 0 ≤ i) (h1 : i < l.length) : spec_l15Square.f (rd_T63 l i).f0 (rd_T63 l i).f1 (rd_T63 l i).f2 (rd_T63 l i).f3 (rd_T63 l i).f4 x y = some (sqAt l x y i) := by
  have ha := area_at h h0 h1
  unfold PArea at ha
  exact spec_Square_eq hp (by unfold PPlace; omega) (by omega) (by omega)
theorem impl_sqAt {l : List S63} (h : PSite l) {x y : Int} (hp : PPlace x y) {i : Int} (h0 : 0 ≤ i) (h1 : i < l.length) : impl_squareTo.f (rd_T63 l i).f0 (rd_T63 l i).f1 (rd_T63 l i).f2 (rd_T63 l i).f3 (rd_T63 l i).f4 x y = some (sqAt l x y i) := by
  have ha := area_at h h0 h1
  unfold PArea at ha
  exact impl_square_eq hp (by unfold PPlace; omega) (by omega) (by omega)
theorem spec_l15Code_ev (l : List S63) (hn : l.length ≤ 140737488351232) (kind x y : Int) : Ev (fun k => spec_l15Code.f k l kind x y) (if PSite l then (if PPlace x y ∧ 0 ≤ kind ∧ kind ≤ 3 then 0 else 2) else 1) := ⟨l.length + 1, fun k hk => spec_l15Code_f l hn k (by omega) kind x y⟩
theorem sq_le {a : Int} (h : 0 ≤ a ∧ a ≤ 100000) : 0 ≤ a * a ∧ a * a ≤ 10000000000 := by
  have h1 := Int.mul_nonneg h.1 h.1
  have h2 := Int.mul_self_le_mul_self h.1 h.2
  omega
theorem spec_within_ev {l : List S63} (h : PSite l) {x y : Int} (hp : PPlace x y) {c : Int} (hc : 0 ≤ c ∧ c ≤ 100000) : Ev (fun k => spec_AreasWithin.l0 k l x y c [] 0) (idxF (fun i => decide (sqAt l x y i ≤ c * c)) l.length 0, 0) := by
  have hl := h.1
  have hq := sq_le hc
  have := ev_filter (L := fun i out k => spec_AreasWithin.l0 k l x y c out i) (p := fun i => decide (sqAt l x y i ≤ c * c)) (n := l.length) (fin := fun out => (out, (0 : Int)))
    (fun i out h0 h1 h2 hp' r hr => by
      refine Ev_shift ?_
      simp only [spec_AreasWithin.l0, if_pos h1, if_pos h0, spec_sqAt h hp h0 h1, Option.bind_some, w64 (n := c * c) (by omega), if_pos (of_decide_eq_true hp'), if_pos (show out.length < 17592186044416 by omega), w64 (n := i + 1) (by omega)]
      exact hr)
    (fun i out h0 h1 h2 hp' r hr => by
      refine Ev_shift ?_
      simp only [spec_AreasWithin.l0, if_pos h1, if_pos h0, spec_sqAt h hp h0 h1, Option.bind_some, w64 (n := c * c) (by omega), if_neg (of_decide_eq_false hp'), w64 (n := i + 1) (by omega)]
      exact hr)
    (fun out h2 => by
      refine Ev_shift ?_
      simp only [spec_AreasWithin.l0, if_neg (show ¬ (l.length : Int) < l.length by omega)]
      exact Ev.now _) l.length 0 [] (by omega) (by omega) (by simp)
  exact this
theorem impl_within_ev {l : List S63} (h : PSite l) {x y : Int} (hp : PPlace x y) {c : Int} (hc : 0 ≤ c ∧ c ≤ 100000) : Ev (fun k => impl_AreasWithin.l0 k x y c [] l l.length 0) (idxF (fun i => decide (sqAt l x y i ≤ c * c)) l.length 0, 0) := by
  have hl := h.1
  have hq := sq_le hc
  have := ev_filter (L := fun i out k => impl_AreasWithin.l0 k x y c out l l.length i) (p := fun i => decide (sqAt l x y i ≤ c * c)) (n := l.length) (fin := fun out => (out, (0 : Int)))
    (fun i out h0 h1 h2 hp' r hr => by
      refine Ev_shift ?_
      simp only [impl_AreasWithin.l0, if_pos h1, if_pos h0, impl_sqAt h hp h0 h1, Option.bind_some, w64 (n := c * c) (by omega), if_pos (of_decide_eq_true hp'), if_pos (show out.length < 17592186044416 by omega), w64 (n := i + 1) (by omega)]
      exact hr)
    (fun i out h0 h1 h2 hp' r hr => by
      refine Ev_shift ?_
      simp only [impl_AreasWithin.l0, if_pos h1, if_pos h0, impl_sqAt h hp h0 h1, Option.bind_some, w64 (n := c * c) (by omega), if_neg (of_decide_eq_false hp'), w64 (n := i + 1) (by omega)]
      exact hr)
    (fun out h2 => by
      refine Ev_shift ?_
      simp only [impl_AreasWithin.l0, if_neg (show ¬ (l.length : Int) < l.length by omega)]
      exact Ev.now _) l.length 0 [] (by omega) (by omega) (by simp)
  exact this
theorem agree_AreasWithin (m0 : List S63) (a1 : Int) (a2 : Int) (a3 : Int) (hn0 : m0.length ≤ 1000000) (hq0 : ∀ x ∈ m0, (I64 x.f0 ∧ I64 x.f1 ∧ I64 x.f2 ∧ I64 x.f3 ∧ I64 x.f4)) (q1 : I64 a1) (q2 : I64 a2) (q3 : I64 a3) : ∃ (K : Nat) (r1 : List Int) (r2 : Int), r1.length ≤ 10000000 ∧ ∀ k, K ≤ k → spec_AreasWithin.f k m0 a1 a2 a3 = some (r1, r2) ∧ impl_AreasWithin.f k m0 a1 a2 a3 = some (r1, r2) := by
  have fin : ∀ q : List Int × Int, q.1.length ≤ 10000000 → Ev (fun k => spec_AreasWithin.f k m0 a1 a2 a3) q → Ev (fun k => impl_AreasWithin.f k m0 a1 a2 a3) q → ∃ (K : Nat) (r1 : List Int) (r2 : Int), r1.length ≤ 10000000 ∧ ∀ k, K ≤ k → spec_AreasWithin.f k m0 a1 a2 a3 = some (r1, r2) ∧ impl_AreasWithin.f k m0 a1 a2 a3 = some (r1, r2) := by
    rintro ⟨x, y⟩ hq e1 e2
    obtain ⟨K, hk⟩ := Ev_both e1 e2
    exact ⟨K, x, y, hq, hk⟩
  have hs := spec_l15Code_ev m0 (by omega) 0 a1 a2
  have hi := impl_IsSite_ev m0 (by omega)
  have jb : ∀ c : Int, c ≠ 0 → Ev (fun k => spec_AreasWithin.j1 k m0 a1 a2 a3 c) (([] : List Int), c) := fun c hc => by
    refine Ev_shift ?_
    simp only [spec_AreasWithin.j1, if_neg hc]
    exact Ev.now _
  have jf : ∀ c q, Ev (fun k => spec_AreasWithin.j1 k m0 a1 a2 a3 c) q → Ev (fun k => spec_AreasWithin.j0 k m0 a1 a2 a3 c false) q := fun c q hq => by
    refine Ev_shift ?_
    simp only [spec_AreasWithin.j0, Bool.false_eq_true, if_false]
    exact hq
  have bad : Ev (fun k => impl_AreasWithin.j0 k m0 a1 a2 a3 true) (([] : List Int), (2 : Int)) := by
    refine Ev_shift ?_
    simp only [impl_AreasWithin.j0, if_true]
    exact Ev.now _
  by_cases h : PSite m0
  · rw [if_pos h] at hs
    by_cases c2 : PPlace a1 a2
    · rw [if_pos ⟨c2, by omega, by omega⟩] at hs
      by_cases c3 : 0 ≤ a3 ∧ a3 ≤ 100000
      · have hlen := idxF_length (fun i => decide (sqAt m0 a1 a2 i ≤ a3 * a3)) m0.length 0
        refine fin (idxF (fun i => decide (sqAt m0 a1 a2 i ≤ a3 * a3)) m0.length 0, 0) (by show List.length (idxF _ _ _) ≤ _; omega) ?_ ?_
        · unfold spec_AreasWithin.f
          refine Ev.bind hs ?_
          simp only [if_true, l01In_eq, Option.bind_some, decide_eq_true c3, Bool.not_true]
          refine jf _ _ (Ev_shift ?_)
          simp only [spec_AreasWithin.j1, if_true]
          exact spec_within_ev h c2 c3
        · unfold impl_AreasWithin.f
          refine Ev.bind hi ?_
          simp only [decide_eq_true h, if_true, impl_place_eq, within_eq, Option.bind_some, decide_eq_true c2, decide_eq_true c3, Bool.not_true]
          refine Ev_shift ?_
          simp only [impl_AreasWithin.j0, Bool.false_eq_true, if_false]
          exact impl_within_ev h c2 c3
      · refine fin ([], 2) (by simp) ?_ ?_
        · unfold spec_AreasWithin.f
          refine Ev.bind hs ?_
          simp only [if_true, l01In_eq, Option.bind_some, decide_eq_false c3, Bool.not_false]
          refine Ev_shift ?_
          simp only [spec_AreasWithin.j0, if_true]
          exact jb 2 (by omega)
        · unfold impl_AreasWithin.f
          refine Ev.bind hi ?_
          simp only [decide_eq_true h, if_true, impl_place_eq, within_eq, Option.bind_some, decide_eq_true c2, decide_eq_false c3, Bool.not_false]
          exact bad
    · rw [if_neg (fun hh => c2 hh.1)] at hs
      refine fin ([], 2) (by simp) ?_ ?_
      · unfold spec_AreasWithin.f
        refine Ev.bind hs ?_
        simp only [if_neg (show ¬ (2 : Int) = 0 by decide)]
        exact jf _ _ (jb 2 (by omega))
      · unfold impl_AreasWithin.f
        refine Ev.bind hi ?_
        simp only [decide_eq_true h, if_true, impl_place_eq, Option.bind_some, decide_eq_false c2, Bool.false_eq_true, if_false]
        exact bad
  · rw [if_neg h] at hs
    refine fin ([], 1) (by simp) ?_ ?_
    · unfold spec_AreasWithin.f
      refine Ev.bind hs ?_
      simp only [if_neg (show ¬ (1 : Int) = 0 by decide)]
      exact jf _ _ (jb 1 (by omega))
    · unfold impl_AreasWithin.f
      refine Ev.bind hi ?_
      simp only [decide_eq_false h, Bool.false_eq_true, if_false]
      exact Ev.now _
end Go.Proofs.Ytffnhobhpfnimaa.Pure
