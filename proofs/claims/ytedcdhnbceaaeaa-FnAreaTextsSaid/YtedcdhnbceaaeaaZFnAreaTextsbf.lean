/- PureFnAreaTexts of the law FnAreaTexts: taken over, declaration by declaration, as far as the law leans on it (the words and the printed functions are the kit's own print). No condition but what each says. -/
import Derived.Test.YtedcdhnbceaaeaaZFnAreaTextsav
import Derived.Test.YtedcdhnbceaaeaaZFnAreaTextsax
import Derived.Test.YtedcdhnbceaaeaaZFnAreaTextsay
import Derived.Test.YtedcdhnbceaaeaaZFnAreaTextsbb
import Derived.Test.YtedcdhnbceaaeaaZFnAreaTextsbc
import Derived.Test.YtedcdhnbceaaeaaZFnAreaTextsbd
import Derived.Test.YtedcdhnbceaaeaaZFnAreaTextsbe
import Derived.Test.YtedcdhnbceaaeaaZFnAreaTextsaz
namespace Go.Proofs.Ytedcdhnbceaaeaa.Pure
open Go.RowKit Go.Proofs.Ytedcdhnbceaaeaa.PFnAreaTexts Go.Proofs.YtedcdhnbceaaeaaW.PrintWords Go.Proofs.YtedcdhnbceaaeaaW.PrintLast Go.Proofs.Ytedcdhnbceaaeaa.Opening
set_option linter.unusedVariables false
set_option linter.unusedSimpArgs false
theorem w64 {n : Int} (h : -9223372036854775808 ≤ n ∧ n ≤ 9223372036854775807) : wrap64 n = n := by
  unfold wrap64
  omega
theorem dec_and {p q : Prop} [Decidable p] [Decidable q] : (if decide p = true then some (decide q) else some false) = some (decide (p ∧ q)) := by
  by_cases h : p <;> simp [h]
theorem l01In_eq (a b c : Int) : spec_l01In.f a b c = some (decide (b ≤ a ∧ a ≤ c)) := by
  unfold spec_l01In.f
  by_cases h : b ≤ a <;> simp [h]
theorem within_eq (a b c : Int) : impl_within.f a b c = some (decide (b ≤ a ∧ a ≤ c)) := by
  unfold impl_within.f
  by_cases h : b ≤ a <;> simp [h]
theorem Ev_shift {α : Type} {g : Nat → Option α} {r : α} (h : Ev (fun k => g (k + 1)) r) : Ev g r := Ev.step (fun _ => rfl) h
theorem Ev_eq {α : Type} {g : Nat → Option α} {r q : α} (h : Ev g r) (e : r = q) : Ev g q := e ▸ h
theorem Ev_some {α : Type} {r q : α} (e : r = q) : Ev (fun _ => some r) q := e ▸ Ev.now r
theorem rd_mem {l : List Int} {i : Int} (h0 : 0 ≤ i) (h1 : i < l.length) : rd l i ∈ l := by
  have hlt : i.toNat < l.length := by omega
  have e : rd l i = l[i.toNat] := by
    show l.getD i.toNat _ = _
    rw [List.getD_eq_getElem?_getD, List.getElem?_eq_getElem hlt]
    rfl
  rw [e]
  exact List.getElem_mem hlt
/-- A digit's text. -/
def dig (n : Int) : ByteArray := strOfNums [48 + n]
theorem dig_size (n : Int) : (dig n).size = 1 := rfl
/-- A number of at most d digits, in decimal. -/
def decF : Nat → Int → ByteArray
  | 0, _ => ⟨#[]⟩
  | d + 1, n => if n < 10 then dig n else decF d (n / 10) ++ dig (n % 10)
theorem decF_size : ∀ (d : Nat) (n : Int), (decF d n).size ≤ d
  | 0, _ => Nat.le_refl _
  | d + 1, n => by
    unfold decF
    split
    · rw [dig_size]
      omega
    · rw [ByteArray.size_append, dig_size]
      have := decF_size d (n / 10)
      omega
theorem spec_dec : ∀ (d : Nat) (n : Int), 0 ≤ n → n < 10 ^ d → 1 ≤ d → d ≤ 18 → n ≤ 1000000000000000000 → Ev (fun k => spec_l01Dec.f k n) (decF d n)
  | 0, n, h0, h1, hd, h2, h3 => by omega
  | d + 1, n, h0, h1, hd, h2, h3 => by
    refine Ev_shift ?_
    unfold decF
    by_cases h : n < 10
    · simp only [spec_l01Dec.f, if_pos h, w64 (n := 48 + n) (by omega)]
      refine Ev_some ?_
      rw [Int.emod_eq_of_lt (by omega) (by omega)]
      rfl
    · have h10 : (10 : Int) ^ (d + 1) = 10 ^ d * 10 := Int.pow_succ 10 d
      simp only [spec_l01Dec.f, if_neg h, Int.tdiv_eq_ediv_of_nonneg h0, Int.tmod_eq_emod_of_nonneg h0, w64 (n := n / 10) (by omega), w64 (n := 48 + n % 10) (by omega)]
      have hd1 : 1 ≤ d := by
        cases d with
        | zero => simp at h1; omega
        | succ d => omega
      refine Ev.bind (spec_dec d (n / 10) (by omega) (by omega) hd1 (by omega) (by omega)) ?_
      have hs := decF_size d (n / 10)
      have e : (48 + n % 10) % 256 = 48 + n % 10 := Int.emod_eq_of_lt (by omega) (by omega)
      simp only [e, Option.bind_some]
      have e2 : (strOfNums [48 + n % 10]).size = 1 := rfl
      simp only [if_pos (show (decF d (n / 10)).size + (strOfNums [48 + n % 10]).size ≤ 9223372036854775807 by omega)]
      exact Ev.now _
theorem impl_dec_l0 : ∀ (d : Nat) (n : Int) (acc : ByteArray), 0 ≤ n → n < 10 ^ d → 1 ≤ d → d ≤ 18 → n ≤ 1000000000000000000 → acc.size + d ≤ 1000 → Ev (fun k => impl_decimal.l0 k n acc) (decF d n ++ acc)
  | 0, n, acc, h0, h1, hd, h2, h3, h4 => by omega
  | d + 1, n, acc, h0, h1, hd, h2, h3, h4 => by
    refine Ev_shift ?_
    have h10 : (10 : Int) ^ (d + 1) = 10 ^ d * 10 := Int.pow_succ 10 d
    have e : (48 + n % 10) % 256 = 48 + n % 10 := Int.emod_eq_of_lt (by omega) (by omega)
    have e2 : (strOfNums [48 + n % 10]).size = 1 := rfl
    simp only [impl_decimal.l0, Int.tdiv_eq_ediv_of_nonneg h0, Int.tmod_eq_emod_of_nonneg h0, w64 (n := n / 10) (by omega), w64 (n := 48 + n % 10) (by omega), e, Option.bind_some, if_pos (show (strOfNums [48 + n % 10]).size + acc.size ≤ 9223372036854775807 by omega)]
    unfold decF
    by_cases h : n < 10
    · simp only [if_pos (show n / 10 = 0 by omega), if_pos h]
      refine Ev_some ?_
      rw [show n % 10 = n by omega]
      rfl
    · simp only [if_neg (show ¬ n / 10 = 0 by omega), if_neg h]
      have hd1 : 1 ≤ d := by
        cases d with
        | zero => simp at h1; omega
        | succ d => omega
      have := impl_dec_l0 d (n / 10) (strOfNums [48 + n % 10] ++ acc) (by omega) (by omega) hd1 (by omega) (by omega) (by rw [ByteArray.size_append]; omega)
      refine Ev_eq this ?_
      rw [ByteArray.append_assoc]
      rfl
theorem impl_dec (d : Nat) (n : Int) (h0 : 0 ≤ n) (h1 : n < 10 ^ d) (hd : 1 ≤ d) (h2 : d ≤ 18) (h3 : n ≤ 1000000000000000000) : Ev (fun k => impl_decimal.f k n) (decF d n) := by
  refine Ev_shift ?_
  simp only [impl_decimal.f, if_neg (show ¬ n < 0 by omega)]
  refine Ev_eq (impl_dec_l0 d n ⟨#[]⟩ h0 h1 hd h2 h3 (by show 0 + d ≤ 1000; omega)) ?_
  exact ByteArray.append_empty
/-- A source of drawn numbers. -/
def Src (c : List Int) (a s : Int) : Prop := (0 ≤ a ∧ a ≤ c.length ∧ c.length ≤ 4096) ∧ (0 ≤ s ∧ s < 2147483647) ∧ ∀ x ∈ c, 0 ≤ x ∧ x ≤ 255
theorem next_some {c : List Int} {a s : Int} (h : Src c a s) (n : Int) (hn : n ≤ 1000000000000) : ∃ v a' s', spec_l01Next.f c a s n = some (v, a', s') ∧ Src c a' s' ∧ 0 ≤ v ∧ (v < n ∨ v = 0) := by
  have ha := h.1
  have hs := h.2.1
  unfold spec_l01Next.f
  by_cases c1 : n ≤ 1
  · rw [if_pos c1]
    exact ⟨0, a, s, rfl, h, by omega, .inr rfl⟩
  · rw [if_neg c1]
    have w1 : wrap64 (wrap64 (s * 48271) + 29) = s * 48271 + 29 := by rw [w64 (n := s * 48271) (by omega), w64 (by omega)]
    obtain ⟨e, he⟩ : ∃ e, Int.tmod (s * 48271 + 29) 2147483647 = e := ⟨_, rfl⟩
    have e0 : 0 ≤ e := he ▸ Int.tmod_nonneg _ (by omega)
    have e1 : e < 2147483647 := he ▸ Int.tmod_lt_of_pos _ (by omega)
    obtain ⟨q, hq⟩ : ∃ q, Int.tdiv e 31 = q := ⟨_, rfl⟩
    have q0 : 0 ≤ q ∧ q ≤ e := by
      rw [← hq, Int.tdiv_eq_ediv_of_nonneg e0]
      omega
    have src : ∀ a' : Int, 0 ≤ a' → a' ≤ (c.length : Int) → Src c a' e := fun a' h0 h1 => ⟨⟨h0, h1, ha.2.2⟩, ⟨e0, e1⟩, h.2.2⟩
    have md : ∀ x, 0 ≤ x → 0 ≤ Int.tmod x n ∧ Int.tmod x n < n := fun x hx => ⟨Int.tmod_nonneg _ hx, Int.tmod_lt_of_pos _ (by omega)⟩
    by_cases c2 : a < c.length
    · have hr := h.2.2 (rd c a) (rd_mem ha.1 c2)
      simp only [w1, he, hq, w64 (n := q) (by omega), if_pos c2, if_pos ha.1, w64 (n := a + 1) (by omega), w64 (n := a + 1 - 1) (by omega), show a + 1 - 1 = a by omega, w64 (n := a) (by omega), w64 (n := rd c a) (by omega), w64 (n := q + rd c a) (by omega), if_neg (show ¬ n = 0 by omega)]
      have m1 := md (rd c a) hr.1
      have m2 := md (q + rd c a) (by omega)
      by_cases c3 : n ≤ 256
      · by_cases c4 : Int.tmod (a + 1) 2 = 0
        · simp only [if_pos c3, if_pos c4]
          exact ⟨_, a + 1, e, rfl, src (a + 1) (by omega) (by omega), m1.1, .inl m1.2⟩
        · simp only [if_pos c3, if_neg c4]
          exact ⟨_, a + 1, e, rfl, src (a + 1) (by omega) (by omega), m2.1, .inl m2.2⟩
      · simp only [if_neg c3]
        exact ⟨_, a + 1, e, rfl, src (a + 1) (by omega) (by omega), m2.1, .inl m2.2⟩
    · have m3 := md q q0.1
      simp only [w1, he, hq, w64 (n := q) (by omega), if_neg c2, if_neg (show ¬ n = 0 by omega)]
      exact ⟨_, a, e, rfl, src a ha.1 ha.2.1, m3.1, .inl m3.2⟩
theorem pick_some {c : List Int} {a s : Int} (h : Src c a s) (l : List Int) (h1 : 1 ≤ l.length) (h2 : l.length ≤ 1000) : ∃ v a' s', spec_l01Pick.f c a s l = some (v, a', s') ∧ Src c a' s' ∧ v ∈ l := by
  obtain ⟨v, a', s', e, hs, h0, hv⟩ := next_some h l.length (by omega)
  refine ⟨rd l v, a', s', ?_, hs, rd_mem h0 (by omega)⟩
  unfold spec_l01Pick.f
  rw [e]
  simp only [Option.bind_some]
  rw [if_pos h0, if_pos (by omega)]
theorem from_l0 (c : List Int) (hc : c.length ≤ 4096) (hb : ∀ x ∈ c, 0 ≤ x ∧ x ≤ 255) : ∀ (d : Nat) (i s : Int), 0 ≤ i → i + d = c.length → 0 ≤ s → s < 2147483647 → ∃ s', Ev (fun k => spec_l01From.l0 k c i c 0 s) (c, 0, s') ∧ Src c 0 s'
  | 0, i, s, h0, hd, s0, s1 => by
    refine ⟨s, Ev_shift ?_, ⟨by omega, by omega, hc⟩, ⟨s0, s1⟩, hb⟩
    simp only [spec_l01From.l0, if_neg (show ¬ i < (c.length : Int) by omega)]
    exact Ev.now _
  | d + 1, i, s, h0, hd, s0, s1 => by
    have hi : i < (c.length : Int) := by omega
    have hr := hb (rd c i) (rd_mem h0 hi)
    by_cases c2 : i < 64
    · obtain ⟨s', e, hs⟩ := from_l0 c hc hb d (i + 1) (Int.tmod (s * 83 + rd c i) 2147483647) (by omega) (by omega) (Int.tmod_nonneg _ (by omega)) (Int.tmod_lt_of_pos _ (by omega))
      refine ⟨s', Ev_shift ?_, hs⟩
      simp only [spec_l01From.l0, if_pos hi, if_pos c2, if_pos h0, w64 (n := i + 1) (by omega), w64 (n := s * 83) (by omega), w64 (n := rd c i) (by omega), w64 (n := s * 83 + rd c i) (by omega)]
      exact e
    · refine ⟨s, Ev_shift ?_, ⟨by omega, by omega, hc⟩, ⟨s0, s1⟩, hb⟩
      simp only [spec_l01From.l0, if_pos hi, if_neg c2]
      exact Ev.now _
theorem from_ev (c : List Int) (hc : c.length ≤ 4096) (hb : ∀ x ∈ c, 0 ≤ x ∧ x ≤ 255) : ∃ s, Ev (fun k => spec_l01From.f k c) (c, 0, s) ∧ Src c 0 s := by
  unfold spec_l01From.f
  exact from_l0 c hc hb c.length 0 61043 (by omega) (by omega) (by omega) (by omega)
theorem u8_rng {l : List Int} (h : ∀ x ∈ l, (Lit.int .u8 x).wf = true) : ∀ x ∈ l, 0 ≤ x ∧ x ≤ 255 := by
  intro x hx
  have := h x hx
  simp only [Lit.wf, Bool.and_eq_true, decide_eq_true_eq] at this
  have h1 : IntKind.min .u8 = 0 := by decide
  have h2 : IntKind.max .u8 = 255 := by decide
  rw [h1, h2] at this
  exact this
def PPlace (x y : Int) : Prop := 0 ≤ x ∧ x ≤ 100000 ∧ 0 ≤ y ∧ y ≤ 100000
instance (x y : Int) : Decidable (PPlace x y) := by unfold PPlace; infer_instance
def PArea (k x y w d : Int) : Prop := 0 ≤ k ∧ k ≤ 3 ∧ 0 ≤ x ∧ x ≤ 100000 ∧ 0 ≤ y ∧ y ≤ 100000 ∧ 1 ≤ w ∧ w ≤ 100000 - x ∧ 1 ≤ d ∧ d ≤ 100000 - y
instance (k x y w d : Int) : Decidable (PArea k x y w d) := by unfold PArea; infer_instance
theorem spec_place_eq (x y : Int) : spec_l15Place.f x y = some (decide (PPlace x y)) := by
  unfold spec_l15Place.f PPlace
  simp only [l01In_eq, Option.bind_some]
  rw [dec_and]
  congr 2
  exact propext ⟨fun h => by omega, fun h => by omega⟩
theorem impl_place_eq (x y : Int) : impl_isPlace.f x y = some (decide (PPlace x y)) := by
  unfold impl_isPlace.f PPlace
  simp only [within_eq, Option.bind_some]
  rw [dec_and]
  congr 2
  exact propext ⟨fun h => by omega, fun h => by omega⟩
theorem impl_isKind_eq (k : Int) : impl_isKind.f k = some (decide (0 ≤ k ∧ k ≤ 3)) := by
  unfold impl_isKind.f
  rw [within_eq]; rfl
theorem spec_IsArea_eq (k x y w d : Int) : spec_IsArea.f k x y w d = some (decide (PArea k x y w d)) := by
  unfold spec_IsArea.f
  simp only [l01In_eq, spec_place_eq, Option.bind_some]
  by_cases h1 : 0 ≤ k ∧ k ≤ 3
  · rw [if_pos (decide_eq_true h1)]
    by_cases h2 : PPlace x y
    · rw [if_pos (decide_eq_true h2)]
      unfold PPlace at h2
      rw [w64 (by omega), w64 (by omega), dec_and]
      congr 2
      unfold PArea
      exact propext ⟨fun h => by omega, fun h => by omega⟩
    · rw [if_neg (by simpa using h2), decide_eq_false (fun h => h2 (by unfold PArea at h; unfold PPlace; omega))]
  · rw [if_neg (by simpa using h1), decide_eq_false (fun h => h1 (by unfold PArea at h; omega))]
theorem impl_IsArea_eq (k x y w d : Int) : impl_IsArea.f k x y w d = some (decide (PArea k x y w d)) := by
  unfold impl_IsArea.f
  simp only [within_eq, impl_isKind_eq, impl_place_eq, Option.bind_some]
  by_cases h1 : 0 ≤ k ∧ k ≤ 3
  · rw [if_pos (decide_eq_true h1)]
    by_cases h2 : PPlace x y
    · rw [if_pos (decide_eq_true h2)]
      unfold PPlace at h2
      rw [w64 (by omega), w64 (by omega), dec_and]
      congr 2
      unfold PArea
      exact propext ⟨fun h => by omega, fun h => by omega⟩
    · rw [if_neg (by simpa using h2), decide_eq_false (fun h => h2 (by unfold PArea at h; unfold PPlace; omega))]
  · rw [if_neg (by simpa using h1), decide_eq_false (fun h => h1 (by unfold PArea at h; omega))]
/-- The word of a kind of areas. -/
def wordM (kind : Int) : ByteArray := if kind = 0 then ⟨#[112, 101, 111, 112, 108, 101]⟩ else if kind = 1 then ⟨#[98, 117, 105, 108, 100, 105, 110, 103]⟩ else if kind = 2 then ⟨#[114, 111, 97, 100]⟩ else ⟨#[119, 97, 116, 101, 114]⟩
theorem wordM_size (kind : Int) : (wordM kind).size ≤ 8 := by
  unfold wordM
  split
  · decide
  · split
    · decide
    · split <;> decide
theorem impl_word_eq (kind : Int) : impl_kindWord.f kind = some (wordM kind) := by
  unfold impl_kindWord.f wordM
  split
  · rfl
  · split
    · rfl
    · split <;> rfl
theorem spec_word_eq (kind : Int) (h : 0 ≤ kind ∧ kind ≤ 3) : spec_l15Word.f kind = some (wordM kind) := by
  unfold spec_l15Word.f
  simp only [Option.bind_some]
  rw [if_pos h.1, if_pos (by simp; omega)]
  obtain rfl | rfl | rfl | rfl : kind = 0 ∨ kind = 1 ∨ kind = 2 ∨ kind = 3 := by omega
  · rfl
  · rfl
  · rfl
  · rfl
/-- The text of an area. -/
def areaM (K X Y W D : Int) : ByteArray := ((((((((wordM K ++ (⟨#[32]⟩ : ByteArray)) ++ decF 6 X) ++ (⟨#[44]⟩ : ByteArray)) ++ decF 6 Y) ++ (⟨#[43]⟩ : ByteArray)) ++ decF 6 W) ++ (⟨#[42]⟩ : ByteArray)) ++ decF 6 D)
theorem spec_text {K X Y W D : Int} (h : PArea K X Y W D) : Ev (fun k => spec_l15Text.f k K X Y W D) (areaM K X Y W D) := by
  unfold PArea at h
  have p6 : (10 : Int) ^ 6 = 1000000 := by decide
  unfold spec_l15Text.f areaM
  have s0 := wordM_size K
  have s1 := decF_size 6 X
  have s2 := decF_size 6 Y
  have s3 := decF_size 6 W
  have s4 := decF_size 6 D
  have c1 : (⟨#[32]⟩ : ByteArray).size = 1 := rfl
  have c2 : (⟨#[44]⟩ : ByteArray).size = 1 := rfl
  have c3 : (⟨#[43]⟩ : ByteArray).size = 1 := rfl
  have c4 : (⟨#[42]⟩ : ByteArray).size = 1 := rfl
  rw [spec_word_eq K (by omega)]
  simp only [Option.bind_some]
  simp only [if_pos (show (wordM K).size + 1 ≤ 9223372036854775807 by omega)]
  refine Ev.bind (spec_dec 6 X (by omega) (by omega) (by omega) (by omega) (by omega)) ?_
  simp only [if_pos (show (wordM K ++ (⟨#[32]⟩ : ByteArray)).size + (decF 6 X).size ≤ 9223372036854775807 by simp only [ByteArray.size_append]; omega)]
  simp only [if_pos (show ((wordM K ++ (⟨#[32]⟩ : ByteArray)) ++ decF 6 X).size + 1 ≤ 9223372036854775807 by simp only [ByteArray.size_append]; omega)]
  refine Ev.bind (spec_dec 6 Y (by omega) (by omega) (by omega) (by omega) (by omega)) ?_
  simp only [if_pos (show (((wordM K ++ (⟨#[32]⟩ : ByteArray)) ++ decF 6 X) ++ (⟨#[44]⟩ : ByteArray)).size + (decF 6 Y).size ≤ 9223372036854775807 by simp only [ByteArray.size_append]; omega)]
  simp only [if_pos (show ((((wordM K ++ (⟨#[32]⟩ : ByteArray)) ++ decF 6 X) ++ (⟨#[44]⟩ : ByteArray)) ++ decF 6 Y).size + 1 ≤ 9223372036854775807 by simp only [ByteArray.size_append]; omega)]
  refine Ev.bind (spec_dec 6 W (by omega) (by omega) (by omega) (by omega) (by omega)) ?_
  simp only [if_pos (show (((((wordM K ++ (⟨#[32]⟩ : ByteArray)) ++ decF 6 X) ++ (⟨#[44]⟩ : ByteArray)) ++ decF 6 Y) ++ (⟨#[43]⟩ : ByteArray)).size + (decF 6 W).size ≤ 9223372036854775807 by simp only [ByteArray.size_append]; omega)]
  simp only [if_pos (show ((((((wordM K ++ (⟨#[32]⟩ : ByteArray)) ++ decF 6 X) ++ (⟨#[44]⟩ : ByteArray)) ++ decF 6 Y) ++ (⟨#[43]⟩ : ByteArray)) ++ decF 6 W).size + 1 ≤ 9223372036854775807 by simp only [ByteArray.size_append]; omega)]
  refine Ev.bind (spec_dec 6 D (by omega) (by omega) (by omega) (by omega) (by omega)) ?_
  simp only [if_pos (show (((((((wordM K ++ (⟨#[32]⟩ : ByteArray)) ++ decF 6 X) ++ (⟨#[44]⟩ : ByteArray)) ++ decF 6 Y) ++ (⟨#[43]⟩ : ByteArray)) ++ decF 6 W) ++ (⟨#[42]⟩ : ByteArray)).size + (decF 6 D).size ≤ 9223372036854775807 by simp only [ByteArray.size_append]; omega)]
  exact Ev.now _
theorem impl_text {K X Y W D : Int} (h : PArea K X Y W D) : Ev (fun k => impl_areaText.f k K X Y W D) (areaM K X Y W D) := by
  unfold PArea at h
  have p6 : (10 : Int) ^ 6 = 1000000 := by decide
  unfold impl_areaText.f areaM
  have s0 := wordM_size K
  have s1 := decF_size 6 X
  have s2 := decF_size 6 Y
  have s3 := decF_size 6 W
  have s4 := decF_size 6 D
  have c1 : (⟨#[32]⟩ : ByteArray).size = 1 := rfl
  have c2 : (⟨#[44]⟩ : ByteArray).size = 1 := rfl
  have c3 : (⟨#[43]⟩ : ByteArray).size = 1 := rfl
  have c4 : (⟨#[42]⟩ : ByteArray).size = 1 := rfl
  rw [impl_word_eq K]
  simp only [Option.bind_some]
  simp only [if_pos (show (wordM K).size + 1 ≤ 9223372036854775807 by omega)]
  refine Ev.bind (impl_dec 6 X (by omega) (by omega) (by omega) (by omega) (by omega)) ?_
  simp only [if_pos (show (wordM K ++ (⟨#[32]⟩ : ByteArray)).size + (decF 6 X).size ≤ 9223372036854775807 by simp only [ByteArray.size_append]; omega)]
  simp only [if_pos (show ((wordM K ++ (⟨#[32]⟩ : ByteArray)) ++ decF 6 X).size + 1 ≤ 9223372036854775807 by simp only [ByteArray.size_append]; omega)]
  refine Ev.bind (impl_dec 6 Y (by omega) (by omega) (by omega) (by omega) (by omega)) ?_
  simp only [if_pos (show (((wordM K ++ (⟨#[32]⟩ : ByteArray)) ++ decF 6 X) ++ (⟨#[44]⟩ : ByteArray)).size + (decF 6 Y).size ≤ 9223372036854775807 by simp only [ByteArray.size_append]; omega)]
  simp only [if_pos (show ((((wordM K ++ (⟨#[32]⟩ : ByteArray)) ++ decF 6 X) ++ (⟨#[44]⟩ : ByteArray)) ++ decF 6 Y).size + 1 ≤ 9223372036854775807 by simp only [ByteArray.size_append]; omega)]
  refine Ev.bind (impl_dec 6 W (by omega) (by omega) (by omega) (by omega) (by omega)) ?_
  simp only [if_pos (show (((((wordM K ++ (⟨#[32]⟩ : ByteArray)) ++ decF 6 X) ++ (⟨#[44]⟩ : ByteArray)) ++ decF 6 Y) ++ (⟨#[43]⟩ : ByteArray)).size + (decF 6 W).size ≤ 9223372036854775807 by simp only [ByteArray.size_append]; omega)]
  simp only [if_pos (show ((((((wordM K ++ (⟨#[32]⟩ : ByteArray)) ++ decF 6 X) ++ (⟨#[44]⟩ : ByteArray)) ++ decF 6 Y) ++ (⟨#[43]⟩ : ByteArray)) ++ decF 6 W).size + 1 ≤ 9223372036854775807 by simp only [ByteArray.size_append]; omega)]
  refine Ev.bind (impl_dec 6 D (by omega) (by omega) (by omega) (by omega) (by omega)) ?_
  simp only [if_pos (show (((((((wordM K ++ (⟨#[32]⟩ : ByteArray)) ++ decF 6 X) ++ (⟨#[44]⟩ : ByteArray)) ++ decF 6 Y) ++ (⟨#[43]⟩ : ByteArray)) ++ decF 6 W) ++ (⟨#[42]⟩ : ByteArray)).size + (decF 6 D).size ≤ 9223372036854775807 by simp only [ByteArray.size_append]; omega)]
  exact Ev.now _
theorem bt_app_l (x y : ByteArray) (i : Int) (h0 : 0 ≤ i) (h : i < x.size) : bt (x ++ y) i = bt x i := by
  have h1 : i.toNat < x.size := by omega
  have h2 : i.toNat < (x ++ y).size := by rw [ByteArray.size_append]; omega
  unfold bt
  rw [dif_pos h1, dif_pos h2, ByteArray.getElem_append_left h1]
theorem bt_app_r (x y : ByteArray) (i : Int) (h : x.size ≤ i) : bt (x ++ y) i = bt y (i - x.size) := by
  unfold bt
  by_cases h1 : i.toNat < (x ++ y).size
  · have h2 := h1
    rw [ByteArray.size_append] at h2
    have h3 : (i - x.size).toNat < y.size := by omega
    have e : (i - x.size).toNat = i.toNat - x.size := by omega
    rw [dif_pos h1, dif_pos h3, ByteArray.getElem_append_right (by omega)]
    simp only [e]
  · have h2 := h1
    rw [ByteArray.size_append] at h2
    rw [dif_neg h1, dif_neg (by omega)]
theorem bt_extract (s : ByteArray) (a b : Nat) (i : Int) (h0 : 0 ≤ i) (h : a + i < b) (hb : b ≤ s.size) : bt (s.extract a b) i = bt s (a + i) := by
  have h1 : i.toNat < (s.extract a b).size := by rw [ByteArray.size_extract]; omega
  have h2 : ((a : Int) + i).toNat < s.size := by omega
  have e : ((a : Int) + i).toNat = a + i.toNat := by omega
  unfold bt
  rw [dif_pos h1, dif_pos h2, ByteArray.getElem_extract]
  simp only [e]
theorem bt_ext {x y : ByteArray} (hs : x.size = y.size) (h : ∀ i : Int, 0 ≤ i → i < x.size → bt x i = bt y i) : x = y := by
  refine ByteArray.ext_getElem hs (fun i hi hi' => ?_)
  have := h i (by omega) (by omega)
  unfold bt at this
  rw [dif_pos (by simpa using hi), dif_pos (by simpa using hi')] at this
  simp only [Int.toNat_natCast] at this
  exact UInt8.toNat_inj.1 (by omega)
theorem bt_dig (n : Int) (h : 0 ≤ n ∧ n ≤ 9) : bt (dig n) 0 = 48 + n := by
  obtain rfl | rfl | rfl | rfl | rfl | rfl | rfl | rfl | rfl | rfl : n = 0 ∨ n = 1 ∨ n = 2 ∨ n = 3 ∨ n = 4 ∨ n = 5 ∨ n = 6 ∨ n = 7 ∨ n = 8 ∨ n = 9 := by omega
  all_goals rfl
theorem dig_of_bt (t : ByteArray) (hs : t.size = 1) (c : Int) (h : bt t 0 = 48 + c) (h0 : 0 ≤ c ∧ c ≤ 9) : t = dig c := by
  refine bt_ext (by rw [hs, dig_size]) (fun i h1 h2 => ?_)
  have : i = 0 := by omega
  subst this
  rw [h, bt_dig c h0]
/-- A text's parts between the places of a byte: d places are looked at from i on; a part begins at f. -/
def splitB (s : ByteArray) (b : Int) : Nat → Nat → Nat → List ByteArray
  | 0, _, f => [s.extract f s.size]
  | d + 1, i, f => if bt s i = b then s.extract f i :: splitB s b d (i + 1) (i + 1) else splitB s b d (i + 1) f
def splitM (s : ByteArray) (b : Int) : List ByteArray := splitB s b s.size 0 0
theorem splitB_len (s : ByteArray) (b : Int) : ∀ d i f, 1 ≤ (splitB s b d i f).length ∧ (splitB s b d i f).length ≤ d + 1
  | 0, _, _ => by simp [splitB]
  | d + 1, i, f => by
    unfold splitB
    split
    · have := splitB_len s b d (i + 1) (i + 1)
      simp only [List.length_cons]
      omega
    · have := splitB_len s b d (i + 1) f
      omega
theorem splitB_size (s : ByteArray) (b : Int) : ∀ d i f, ∀ x ∈ splitB s b d i f, x.size ≤ s.size
  | 0, _, f, x, hx => by
    simp only [splitB, List.mem_singleton] at hx
    subst hx
    rw [ByteArray.size_extract]
    omega
  | d + 1, i, f, x, hx => by
    unfold splitB at hx
    split at hx
    · rcases List.mem_cons.1 hx with rfl | hx
      · rw [ByteArray.size_extract]
        omega
      · exact splitB_size s b d (i + 1) (i + 1) x hx
    · exact splitB_size s b d (i + 1) f x hx
theorem splitB_one (s : ByteArray) (b : Int) : ∀ d i f x, splitB s b d i f = [x] → x = s.extract f s.size
  | 0, _, f, x, h => by simpa [splitB] using h.symm
  | d + 1, i, f, x, h => by
    unfold splitB at h
    split at h
    · have := (splitB_len s b d (i + 1) (i + 1)).1
      injection h with h1 h2
      rw [h2] at this
      simp at this
    · exact splitB_one s b d (i + 1) f x h
theorem splitB_two (s : ByteArray) (b : Int) : ∀ d i f x y, splitB s b d i f = [x, y] → ∃ j, i ≤ j ∧ j < i + d ∧ bt s (j : Nat) = b ∧ x = s.extract f j ∧ y = s.extract (j + 1) s.size
  | 0, _, f, x, y, h => by simp [splitB] at h
  | d + 1, i, f, x, y, h => by
    unfold splitB at h
    split at h
    · rename_i hb
      injection h with h1 h2
      exact ⟨i, Nat.le_refl _, by omega, hb, h1.symm, splitB_one s b d _ _ y h2⟩
    · obtain ⟨j, h1, h2, h3⟩ := splitB_two s b d (i + 1) f x y h
      exact ⟨j, by omega, by omega, h3⟩
/-- Two parts, joined again. -/
theorem splitM_join {s x y c : ByteArray} {b : Int} (h : splitM s b = [x, y]) (hc : c.size = 1) (hb : bt c 0 = b) : s = (x ++ c) ++ y := by
  obtain ⟨j, h1, h2, h3, rfl, rfl⟩ := splitB_two s b s.size 0 0 x y h
  refine bt_ext ?_ (fun i h0 hi => ?_)
  · simp only [ByteArray.size_append, ByteArray.size_extract]
    omega
  · have e1 : (s.extract 0 j).size = j := by rw [ByteArray.size_extract]; omega
    rcases Int.lt_trichotomy i j with hl | rfl | hg
    · rw [bt_app_l _ _ _ h0 (by rw [ByteArray.size_append, e1, hc]; omega), bt_app_l _ _ _ h0 (by rw [e1]; exact hl), bt_extract s 0 j i h0 (by omega) (by omega)]
      congr 1
      omega
    · rw [bt_app_l _ _ _ h0 (by rw [ByteArray.size_append, e1, hc]; omega), bt_app_r _ _ _ (by rw [e1]; omega), e1, Int.sub_self, hb, h3]
    · rw [bt_app_r _ _ _ (by rw [ByteArray.size_append, e1, hc]; omega), ByteArray.size_append, e1, hc, bt_extract s (j + 1) s.size _ (by omega) (by omega) (Nat.le_refl _)]
      congr 1
      omega
theorem splitB_none (s : ByteArray) (b : Int) : ∀ d i f, i + d = s.size → (∀ q : Nat, i ≤ q → q < s.size → bt s q ≠ b) → splitB s b d i f = [s.extract f s.size]
  | 0, _, f, _, _ => rfl
  | d + 1, i, f, hd, h => by
    unfold splitB
    rw [if_neg (h i (Nat.le_refl _) (by omega))]
    exact splitB_none s b d (i + 1) f (by omega) (fun q h1 h2 => h q (by omega) h2)
theorem splitB_at (s : ByteArray) (b : Int) (j : Nat) (hj : j < s.size) (hb : bt s j = b) (h : ∀ q : Nat, q < s.size → q ≠ j → bt s q ≠ b) : ∀ d i f, i + d = s.size → i ≤ j → splitB s b d i f = [s.extract f j, s.extract (j + 1) s.size]
  | 0, i, f, hd, hi => by omega
  | d + 1, i, f, hd, hi => by
    unfold splitB
    by_cases e : i = j
    · subst e
      rw [if_pos hb, splitB_none s b d (i + 1) (i + 1) (by omega) (fun q h1 h2 => h q h2 (by omega))]
    · rw [if_neg (h i (by omega) e)]
      exact splitB_at s b j hj hb h d (i + 1) f (by omega) (by omega)
/-- A byte stands nowhere in a text. -/
def Free (b : Int) (x : ByteArray) : Prop := ∀ q : Int, 0 ≤ q → q < x.size → bt x q ≠ b
theorem Free.app {b : Int} {x y : ByteArray} (hx : Free b x) (hy : Free b y) : Free b (x ++ y) := by
  intro q h0 h1
  rw [ByteArray.size_append] at h1
  by_cases h : q < x.size
  · rw [bt_app_l _ _ _ h0 h]; exact hx q h0 h
  · rw [bt_app_r _ _ _ (by omega)]; exact hy _ (by omega) (by omega)
theorem splitM_two {x y c : ByteArray} {b : Int} (hc : c.size = 1) (hb : bt c 0 = b) (hx : Free b x) (hy : Free b y) : splitM ((x ++ c) ++ y) b = [x, y] := by
  have hs : ((x ++ c) ++ y).size = x.size + 1 + y.size := by rw [ByteArray.size_append, ByteArray.size_append, hc]
  have hs1 : (x ++ c).size = x.size + 1 := by rw [ByteArray.size_append, hc]
  unfold splitM
  rw [splitB_at ((x ++ c) ++ y) b x.size (by omega) ?_ ?_ _ 0 0 (by omega) (by omega)]
  · congr 1
    · rw [ByteArray.append_assoc]
      exact ByteArray.extract_append_eq_left rfl
    · congr 1
      rw [hs]
      exact ByteArray.extract_append_eq_right (by omega) (by omega)
  · rw [bt_app_l _ _ _ (by omega) (by omega), bt_app_r _ _ _ (by omega), Int.sub_self, hb]
  · intro q hq hne
    by_cases h : q < x.size
    · rw [bt_app_l _ _ _ (by omega) (by omega), bt_app_l _ _ _ (by omega) (by omega)]
      exact hx q (by omega) (by omega)
    · rw [bt_app_r _ _ _ (by omega)]
      exact hy _ (by omega) (by omega)
/-- The number that d digits from place i on, behind n, tell. -/
def valF (s : ByteArray) : Nat → Nat → Int → Int
  | 0, _, n => n
  | d + 1, i, n => valF s d (i + 1) (10 * n + (bt s i - 48))
/-- Digits alone, d of them from place i on. -/
def Digits (s : ByteArray) : Prop := ∀ q : Int, 0 ≤ q → q < s.size → 48 ≤ bt s q ∧ bt s q ≤ 57
theorem valF_snoc (s : ByteArray) : ∀ d i n, valF s (d + 1) i n = 10 * valF s d i n + (bt s ((i + d : Nat) : Int) - 48)
  | 0, i, n => by simp [valF]
  | d + 1, i, n => by
    have h := valF_snoc s d (i + 1) (10 * n + (bt s i - 48))
    rw [show i + 1 + d = i + (d + 1) by omega] at h
    rw [show valF s (d + 1 + 1) i n = valF s (d + 1) (i + 1) (10 * n + (bt s i - 48)) from rfl, h]
    rfl
theorem valF_congr (s t : ByteArray) : ∀ d i n, (∀ q : Nat, i ≤ q → q < i + d → bt s q = bt t q) → valF s d i n = valF t d i n
  | 0, _, _, _ => rfl
  | d + 1, i, n, h => by
    unfold valF
    rw [h i (Nat.le_refl _) (by omega)]
    exact valF_congr s t d (i + 1) _ (fun q h1 h2 => h q (by omega) (by omega))
theorem valF_range (s : ByteArray) (hs : Digits s) : ∀ d i n, i + d ≤ s.size → 0 ≤ n → 0 ≤ valF s d i n ∧ valF s d i n < (n + 1) * 10 ^ d
  | 0, i, n, h, h0 => by simp [valF]; omega
  | d + 1, i, n, h, h0 => by
    unfold valF
    have hb := hs i (by omega) (by omega)
    have ih := valF_range s hs d (i + 1) (10 * n + (bt s i - 48)) (by omega) (by omega)
    refine ⟨ih.1, ?_⟩
    have e : (n + 1) * 10 ^ (d + 1) = ((n + 1) * 10) * 10 ^ d := by rw [Int.pow_succ, Int.mul_assoc, Int.mul_comm (10 ^ d) 10]
    rw [e]
    refine Int.lt_of_lt_of_le ih.2 (Int.mul_le_mul_of_nonneg_right (by omega) (Int.le_of_lt (Int.pow_pos (by omega))))
theorem valF_pos (s : ByteArray) (hs : Digits s) : ∀ d i n, i + d ≤ s.size → 1 ≤ n → 1 ≤ valF s d i n
  | 0, i, n, h, h0 => h0
  | d + 1, i, n, h, h0 => by
    unfold valF
    have hb := hs i (by omega) (by omega)
    exact valF_pos s hs d (i + 1) _ (by omega) (by omega)
theorem decF_pos : ∀ (d : Nat) (n : Int), 0 ≤ n → n < 10 ^ d → 1 ≤ d → 1 ≤ (decF d n).size
  | 0, n, _, _, h => by omega
  | d + 1, n, h0, h1, _ => by
    unfold decF
    split
    · rw [dig_size]; omega
    · rw [ByteArray.size_append, dig_size]; omega
theorem decF_digits : ∀ (d : Nat) (n : Int), 0 ≤ n → Digits (decF d n)
  | 0, n, h0, q, h1, h2 => by
    have : (decF 0 n).size = 0 := rfl
    omega
  | d + 1, n, h0, q, h1, h2 => by
    unfold decF at h2 ⊢
    split at h2
    · rename_i hn
      rw [if_pos hn]
      rw [dig_size] at h2
      have : q = 0 := by omega
      subst this
      rw [bt_dig n (by omega)]
      omega
    · rename_i hn
      rw [if_neg hn]
      rw [ByteArray.size_append, dig_size] at h2
      by_cases hq : q < (decF d (n / 10)).size
      · rw [bt_app_l _ _ _ h1 hq]
        exact decF_digits d (n / 10) (by omega) q h1 hq
      · rw [bt_app_r _ _ _ (by omega), show q - ((decF d (n / 10)).size : Int) = 0 by omega, bt_dig _ (by omega)]
        omega
theorem decF_val : ∀ (d : Nat) (n : Int), 0 ≤ n → n < 10 ^ d → valF (decF d n) (decF d n).size 0 0 = n
  | 0, n, h0, h1 => by
    simp at h1
    have : n = 0 := by omega
    subst this
    rfl
  | d + 1, n, h0, h1 => by
    have h10 : (10 : Int) ^ (d + 1) = 10 ^ d * 10 := Int.pow_succ 10 d
    unfold decF
    split
    · rename_i hn
      rw [dig_size]
      show 10 * 0 + (bt (dig n) ((0 : Nat) : Int) - 48) = n
      rw [show ((0 : Nat) : Int) = 0 from rfl, bt_dig n (by omega)]
      omega
    · rw [ByteArray.size_append, dig_size, valF_snoc, Nat.zero_add, bt_app_r _ _ _ (by omega), Int.sub_self, bt_dig _ (by omega), valF_congr _ (decF d (n / 10)) _ 0 0 (fun q h1 h2 => bt_app_l _ _ _ (by omega) (by omega)), decF_val d (n / 10) (by omega) (by omega)]
      omega
theorem decF_lead : ∀ (d : Nat) (n : Int), 1 ≤ n → n < 10 ^ d → bt (decF d n) 0 ≠ 48
  | 0, n, h0, h1 => by simp at h1; omega
  | d + 1, n, h0, h1 => by
    have h10 : (10 : Int) ^ (d + 1) = 10 ^ d * 10 := Int.pow_succ 10 d
    unfold decF
    split
    · rw [bt_dig n (by omega)]
      omega
    · have hd : 1 ≤ d := by
        cases d with
        | zero => simp at h1; omega
        | succ d => omega
      have hp := decF_pos d (n / 10) (by omega) (by omega) hd
      rw [bt_app_l _ _ _ (by omega) (by omega)]
      exact decF_lead d (n / 10) (by omega) (by omega)
/-- What a text of digits without a leading zero tells is written so. -/
theorem decF_of_val : ∀ (d : Nat) (t : ByteArray), Digits t → 1 ≤ t.size → (bt t 0 = 48 → t.size = 1) → valF t t.size 0 0 < 10 ^ d → 1 ≤ d → decF d (valF t t.size 0 0) = t
  | 0, t, _, _, _, _, h => by omega
  | d + 1, t, hD, h1, hz, hv, _ => by
    have h10 : (10 : Int) ^ (d + 1) = 10 ^ d * 10 := Int.pow_succ 10 d
    obtain ⟨m, hm⟩ : ∃ m, t.size = m + 1 := ⟨t.size - 1, by omega⟩
    have hs : valF t t.size 0 0 = 10 * valF t m 0 0 + (bt t (m : Int) - 48) := by
      rw [hm, valF_snoc, Nat.zero_add]
    have hlast := hD (m : Int) (by omega) (by omega)
    cases m with
    | zero =>
      have e : valF t t.size 0 0 = bt t 0 - 48 := by
        rw [hs]
        show 10 * 0 + (bt t 0 - 48) = _
        omega
      have hlast' := hD 0 (by omega) (by omega)
      unfold decF
      rw [e, if_pos (by omega)]
      exact (dig_of_bt t (by omega) (bt t 0 - 48) (by omega) (by omega)).symm
    | succ m =>
      have hf := hD 0 (by omega) (by omega)
      have hne : bt t 0 ≠ 48 := fun e => by have := hz e; omega
      have hp : 1 ≤ valF t (m + 1) 0 0 := by
        unfold valF
        exact valF_pos t hD m 1 _ (by omega) (by have : bt t ((0 : Nat) : Int) = bt t 0 := rfl; omega)
      have e1 : (t.extract 0 (m + 1)).size = m + 1 := by rw [ByteArray.size_extract]; omega
      have hbt : ∀ q : Int, 0 ≤ q → q < (m + 1 : Nat) → bt (t.extract 0 (m + 1)) q = bt t q := fun q h0 h1 => by
        rw [bt_extract t 0 (m + 1) q h0 (by omega) (by omega)]
        congr 1
        omega
      have ev : valF (t.extract 0 (m + 1)) (t.extract 0 (m + 1)).size 0 0 = valF t (m + 1) 0 0 := by
        rw [e1]
        exact valF_congr _ _ _ 0 0 (fun q h1 h2 => hbt q (by omega) (by omega))
      have hd : 1 ≤ d := by
        cases d with
        | zero => simp at hv; omega
        | succ d => omega
      have ih := decF_of_val d (t.extract 0 (m + 1)) (fun q h0 h1 => by rw [hbt q h0 (by omega)]; exact hD q h0 (by omega)) (by omega) (fun e => by rw [hbt 0 (by omega) (by omega)] at e; exact absurd e hne) (by rw [ev]; omega) hd
      rw [ev] at ih
      unfold decF
      rw [if_neg (by omega), show valF t t.size 0 0 / 10 = valF t (m + 1) 0 0 by omega, show valF t t.size 0 0 % 10 = bt t ((m + 1 : Nat) : Int) - 48 by omega, ih]
      refine bt_ext (by rw [ByteArray.size_append, dig_size, e1]; omega) (fun i h0 hi => ?_)
      rw [ByteArray.size_append, dig_size, e1] at hi
      by_cases h : i < (m + 1 : Nat)
      · rw [bt_app_l _ _ _ h0 (by rw [e1]; exact h), hbt i h0 h]
      · rw [bt_app_r _ _ _ (by rw [e1]; omega), e1, show i - ((m + 1 : Nat) : Int) = 0 by omega, bt_dig _ (by omega), show i = ((m + 1 : Nat) : Int) by omega]
        omega
theorem toList_loop_len (s : ByteArray) : ∀ (d i : Nat) (r : List UInt8), i + d = s.size → ByteArray.toList.loop s i r = r.reverse ++ (s.data.toList.drop i)
  | 0, i, r, h => by
    have hs : s.data.toList.length = s.size := by rw [Array.length_toList]; rfl
    unfold ByteArray.toList.loop
    rw [if_neg (by omega), List.drop_eq_nil_of_le (by omega), List.append_nil]
  | d + 1, i, r, h => by
    have hs : s.data.toList.length = s.size := by rw [Array.length_toList]; rfl
    have hi : i < s.data.toList.length := by omega
    unfold ByteArray.toList.loop
    rw [if_pos (by omega), toList_loop_len s d (i + 1) _ (by omega), List.drop_eq_getElem_cons hi]
    have e : s.get! i = s.data.toList[i] := by
      show s.data[i]! = _
      rw [getElem!_pos s.data i (by simpa using hi)]
      simp
    rw [e]
    simp
theorem toList_data (s : ByteArray) : s.toList = s.data.toList := by
  have := toList_loop_len s s.size 0 [] (by omega)
  unfold ByteArray.toList
  rw [this]
  simp
theorem toList_iff (s t : ByteArray) : s.toList = t.toList ↔ s = t := by
  constructor
  · intro h
    rw [toList_data, toList_data] at h
    cases s
    cases t
    simp only at h
    rw [Array.toList_inj.1 h]
  · intro h
    rw [h]
theorem impl_split_l0 (s : ByteArray) (b : Int) (hs : s.size ≤ 1000000) : ∀ (d i f : Nat) (out : List ByteArray), i + d = s.size → f ≤ i → out.length ≤ i → Ev (fun k => impl_splitAt.l0 k s b out f i) (out ++ splitB s b d i f)
  | 0, i, f, out, hd, hf, ho => by
    refine Ev_shift ?_
    simp only [impl_splitAt.l0, if_neg (show ¬ (i : Int) < (s.size : Int) by omega), if_pos (show (0 : Int) ≤ (f : Int) by omega), if_pos (show (f : Int) ≤ (s.size : Int) by omega), if_pos (show out.length < 8796093022208 by omega), Int.toNat_natCast]
    exact Ev.now _
  | d + 1, i, f, out, hd, hf, ho => by
    refine Ev_shift ?_
    simp only [impl_splitAt.l0, if_pos (show (i : Int) < (s.size : Int) by omega), if_pos (show (0 : Int) ≤ (i : Int) by omega), w64 (n := (i : Int) + 1) (by omega)]
    unfold splitB
    by_cases hb : bt s i = b
    · simp only [if_pos hb, if_pos (show (0 : Int) ≤ (f : Int) by omega), if_pos (show (f : Int) ≤ (i : Int) by omega), if_pos (show (i : Int) ≤ (s.size : Int) by omega), if_pos (show out.length < 8796093022208 by omega), Int.toNat_natCast]
      have := impl_split_l0 s b hs d (i + 1) (i + 1) (out ++ [s.extract f i]) (by omega) (by omega) (by simp; omega)
      rw [List.append_assoc, List.singleton_append] at this
      exact this
    · simp only [if_neg hb]
      exact impl_split_l0 s b hs d (i + 1) f out (by omega) (by omega) (by omega)
theorem impl_split (s : ByteArray) (b : Int) (hs : s.size ≤ 1000000) : Ev (fun k => impl_splitAt.f k s b) (splitM s b) := impl_split_l0 s b hs s.size 0 0 [] (by omega) (by omega) (by simp)
theorem spec_split_l0 (s : ByteArray) (b : Int) (hs : s.size ≤ 1000000) : ∀ (d i f : Nat) (out : List ByteArray), i + d = s.size → f ≤ i → out.length ≤ i → Ev (fun k => spec_l01Split.l0 k s b out f i) (out ++ splitB s b d i f)
  | 0, i, f, out, hd, hf, ho => by
    refine Ev_shift ?_
    have hi : i = s.size := by omega
    subst hi
    simp only [spec_l01Split.l0, if_pos (show (s.size : Int) ≤ (s.size : Int) by omega), if_true, if_pos (show (0 : Int) ≤ (f : Int) by omega), if_pos (show (f : Int) ≤ (s.size : Int) by omega), if_pos (show out.length < 8796093022208 by omega), Int.toNat_natCast, w64 (n := (s.size : Int) + 1) (by omega)]
    refine Ev_shift ?_
    simp only [spec_l01Split.l0, if_neg (show ¬ (s.size : Int) + 1 ≤ (s.size : Int) by omega)]
    exact Ev.now _
  | d + 1, i, f, out, hd, hf, ho => by
    refine Ev_shift ?_
    simp only [spec_l01Split.l0, if_pos (show (i : Int) ≤ (s.size : Int) by omega), if_neg (show ¬ (i : Int) = (s.size : Int) by omega), if_pos (show (i : Int) < (s.size : Int) by omega), if_pos (show (0 : Int) ≤ (i : Int) by omega), w64 (n := (i : Int) + 1) (by omega)]
    unfold splitB
    by_cases hb : bt s i = b
    · simp only [if_pos hb, if_pos (show (0 : Int) ≤ (f : Int) by omega), if_pos (show (f : Int) ≤ (i : Int) by omega), if_pos (show out.length < 8796093022208 by omega), Int.toNat_natCast]
      have := spec_split_l0 s b hs d (i + 1) (i + 1) (out ++ [s.extract f i]) (by omega) (by omega) (by simp; omega)
      rw [List.append_assoc, List.singleton_append] at this
      exact this
    · simp only [if_neg hb]
      exact spec_split_l0 s b hs d (i + 1) f out (by omega) (by omega) (by omega)
theorem spec_split (s : ByteArray) (b : Int) (hs : s.size ≤ 1000000) : Ev (fun k => spec_l01Split.f k s b) (splitM s b) := spec_split_l0 s b hs s.size 0 0 [] (by omega) (by omega) (by simp)
/-- Digits alone from place i on. -/
def DigF (s : ByteArray) (i : Nat) : Prop := ∀ q : Nat, i ≤ q → q < s.size → 48 ≤ bt s q ∧ bt s q ≤ 57
theorem DigF.all {s : ByteArray} (h : DigF s 0) : Digits s := fun q h0 h1 => by
  have := h q.toNat (by omega) (by omega)
  rwa [Int.toNat_of_nonneg h0] at this
theorem Digits.from {s : ByteArray} (h : Digits s) (i : Nat) : DigF s i := fun q h0 h1 => h q (by omega) (by omega)
theorem DigF.next {s : ByteArray} {i : Nat} (h : DigF s (i + 1)) (hb : 48 ≤ bt s i ∧ bt s i ≤ 57) : DigF s i := fun q h0 h1 => by
  by_cases e : q = i
  · rw [e]; exact hb
  · exact h q (by omega) h1
theorem pow_le18 : ∀ i : Nat, i ≤ 18 → (10 : Int) ^ i ≤ 1000000000000000000 := by
  intro i hi
  obtain ⟨d, hd⟩ : ∃ d, i + d = 18 := ⟨18 - i, by omega⟩
  have e : (10 : Int) ^ 18 = 10 ^ i * 10 ^ d := by rw [← hd, Int.pow_add]
  have h1 : (1 : Int) ≤ 10 ^ d := Int.pow_pos (by omega)
  have h2 : (0 : Int) ≤ 10 ^ i := Int.le_of_lt (Int.pow_pos (by omega))
  have h3 := Int.mul_le_mul_of_nonneg_left h1 h2
  rw [Int.mul_one, ← e] at h3
  exact h3
theorem dig_next {s : ByteArray} {i : Nat} {n : Int} (hi : i < 18) (h0 : 0 ≤ n) (h1 : n < 10 ^ i) (hb : 48 ≤ bt s i ∧ bt s i ≤ 57) :
    wrap64 ((wrap64 (10 * n)) + (((bt s i) - 48) % 256)) = 10 * n + (bt s i - 48) ∧ 0 ≤ 10 * n + (bt s i - 48) ∧ 10 * n + (bt s i - 48) < 10 ^ (i + 1) := by
  have hp := pow_le18 (i + 1) (by omega)
  have e : (10 : Int) ^ (i + 1) = 10 ^ i * 10 := Int.pow_succ 10 i
  have e2 : (bt s i - 48) % 256 = bt s i - 48 := Int.emod_eq_of_lt (by omega) (by omega)
  rw [e2, w64 (n := 10 * n) (by omega), w64 (by omega)]
  refine ⟨rfl, by omega, by omega⟩
theorem impl_rd_l0 (x t : ByteArray) (ht : t.size ≤ 18) : ∀ (d i : Nat) (n : Int), i + d = t.size → 0 ≤ n → n < 10 ^ i →
    ∃ r, Ev (fun k => impl_readDecimal.l0 k x t n i) r ∧ ((¬ DigF t i ∧ r = (0, false)) ∨ (DigF t i ∧ r = (if t.size < x.size then wrap64 (-valF t d i n) else valF t d i n, true)))
  | 0, i, n, hd, h0, h1 => by
    refine ⟨_, Ev_shift ?_, Or.inr ⟨fun q h2 h3 => by omega, rfl⟩⟩
    simp only [impl_readDecimal.l0, if_neg (show ¬ (i : Int) < (t.size : Int) by omega)]
    by_cases h : t.size < x.size
    · simp only [if_pos h, if_pos (show (t.size : Int) < (x.size : Int) by omega)]
      exact Ev.now _
    · simp only [if_neg h, if_neg (show ¬ (t.size : Int) < (x.size : Int) by omega)]
      exact Ev.now _
  | d + 1, i, n, hd, h0, h1 => by
    by_cases hb : 48 ≤ bt t i ∧ bt t i ≤ 57
    · obtain ⟨e1, e2, e3⟩ := dig_next (s := t) (by omega) h0 h1 hb
      obtain ⟨r, hr, hc⟩ := impl_rd_l0 x t ht d (i + 1) (10 * n + (bt t i - 48)) (by omega) e2 e3
      refine ⟨r, Ev_shift ?_, ?_⟩
      · simp only [impl_readDecimal.l0, if_pos (show (i : Int) < (t.size : Int) by omega), if_pos (show (0 : Int) ≤ (i : Int) by omega), if_neg (show ¬ bt t i < 48 by omega), if_neg (show ¬ bt t i > 57 by omega), e1, w64 (n := (i : Int) + 1) (by omega)]
        exact hr
      · rcases hc with ⟨h2, h3⟩ | ⟨h2, h3⟩
        · exact Or.inl ⟨fun h => h2 (fun q h4 h5 => h q (by omega) h5), h3⟩
        · exact Or.inr ⟨h2.next hb, h3⟩
    · refine ⟨(0, false), Ev_shift ?_, Or.inl ⟨fun h => hb (h i (Nat.le_refl _) (by omega)), rfl⟩⟩
      simp only [impl_readDecimal.l0, if_pos (show (i : Int) < (t.size : Int) by omega), if_pos (show (0 : Int) ≤ (i : Int) by omega)]
      by_cases h : bt t i < 48
      · simp only [if_pos h]
        exact Ev.now _
      · simp only [if_neg h, if_pos (show bt t i > 57 by omega)]
        exact Ev.now _
/-- What a text without its sign tells. -/
def NumOf (x t : ByteArray) : Prop := DigF t 0 ∧ 1 ≤ t.size ∧ t.size ≤ 18 ∧ (bt t 0 = 48 → t.size ≤ 1 ∧ x.size ≤ 1)
theorem impl_rd_j2 (x t : ByteArray) (ht : t.size ≤ 18) : ∃ r, Ev (fun k => impl_readDecimal.j2 k x t false) r ∧ ((¬ DigF t 0 ∧ r = (0, false)) ∨ (DigF t 0 ∧ r = (if t.size < x.size then wrap64 (-valF t t.size 0 0) else valF t t.size 0 0, true))) := by
  obtain ⟨r, hr, hc⟩ := impl_rd_l0 x t ht t.size 0 0 (by omega) (by omega) (by decide)
  refine ⟨r, Ev_shift ?_, hc⟩
  simp only [impl_readDecimal.j2, Bool.false_eq_true, if_false]
  exact hr
theorem impl_rd_j1 (x t : ByteArray) : ∃ r, Ev (fun k => impl_readDecimal.j1 k x t) r ∧ ((¬ NumOf x t ∧ r = (0, false)) ∨ (NumOf x t ∧ r = (if t.size < x.size then wrap64 (-valF t t.size 0 0) else valF t t.size 0 0, true))) := by
  have hj : Ev (fun k => impl_readDecimal.j2 k x t true) (0, false) := by
    refine Ev_shift ?_
    simp only [impl_readDecimal.j2, if_true]
    exact Ev.now _
  by_cases h0 : t.size = 0
  · refine ⟨_, Ev_shift ?_, Or.inl ⟨fun h => by have := h.2.1; omega, rfl⟩⟩
    simp only [impl_readDecimal.j1, if_pos (show (t.size : Int) = 0 by omega)]
    exact hj
  by_cases h1 : t.size > 18
  · refine ⟨_, Ev_shift ?_, Or.inl ⟨fun h => by have := h.2.2.1; omega, rfl⟩⟩
    simp only [impl_readDecimal.j1, if_neg (show ¬ (t.size : Int) = 0 by omega), if_pos (show (t.size : Int) > 18 by omega)]
    exact hj
  by_cases h2 : bt t 0 = 48
  · by_cases h3 : t.size > 1
    · refine ⟨_, Ev_shift ?_, Or.inl ⟨fun h => by have := (h.2.2.2 h2).1; omega, rfl⟩⟩
      simp only [impl_readDecimal.j1, if_neg (show ¬ (t.size : Int) = 0 by omega), if_neg (show ¬ (t.size : Int) > 18 by omega), if_pos (show 0 < (t.size : Int) by omega), if_pos h2, if_pos (show (t.size : Int) > 1 by omega)]
      exact hj
    · by_cases h4 : x.size > 1
      · refine ⟨_, Ev_shift ?_, Or.inl ⟨fun h => by have := (h.2.2.2 h2).2; omega, rfl⟩⟩
        simp only [impl_readDecimal.j1, if_neg (show ¬ (t.size : Int) = 0 by omega), if_neg (show ¬ (t.size : Int) > 18 by omega), if_pos (show 0 < (t.size : Int) by omega), if_pos h2, if_neg (show ¬ (t.size : Int) > 1 by omega), decide_eq_true (show (x.size : Int) > 1 by omega)]
        exact hj
      · obtain ⟨r, hr, hc⟩ := impl_rd_j2 x t (by omega)
        refine ⟨r, Ev_shift ?_, ?_⟩
        · simp only [impl_readDecimal.j1, if_neg (show ¬ (t.size : Int) = 0 by omega), if_neg (show ¬ (t.size : Int) > 18 by omega), if_pos (show 0 < (t.size : Int) by omega), if_pos h2, if_neg (show ¬ (t.size : Int) > 1 by omega), decide_eq_false (show ¬ (x.size : Int) > 1 by omega)]
          exact hr
        · rcases hc with ⟨h5, h6⟩ | ⟨h5, h6⟩
          · exact Or.inl ⟨fun h => h5 h.1, h6⟩
          · exact Or.inr ⟨⟨h5, by omega, by omega, fun _ => ⟨by omega, by omega⟩⟩, h6⟩
  · obtain ⟨r, hr, hc⟩ := impl_rd_j2 x t (by omega)
    refine ⟨r, Ev_shift ?_, ?_⟩
    · simp only [impl_readDecimal.j1, if_neg (show ¬ (t.size : Int) = 0 by omega), if_neg (show ¬ (t.size : Int) > 18 by omega), if_pos (show 0 < (t.size : Int) by omega), if_neg h2]
      exact hr
    · rcases hc with ⟨h5, h6⟩ | ⟨h5, h6⟩
      · exact Or.inl ⟨fun h => h5 h.1, h6⟩
      · exact Or.inr ⟨⟨h5, by omega, by omega, fun e => absurd e h2⟩, h6⟩
theorem impl_rd (t : ByteArray) : ∃ r, Ev (fun k => impl_readDecimal.f k t) r ∧ (r.2 = true → 0 ≤ r.1 → r.1 < 1000000 → t = decF 6 r.1) := by
  by_cases h0 : t.size = 0
  · obtain ⟨r, hr, hc⟩ := impl_rd_j1 t t
    refine ⟨r, Ev_shift ?_, ?_⟩
    · simp only [impl_readDecimal.f, if_neg (show ¬ (t.size : Int) > 0 by omega)]
      simp only [impl_readDecimal.j0, Bool.false_eq_true, if_false]
      exact hr
    · rcases hc with ⟨h5, rfl⟩ | ⟨h5, h6⟩
      · intro h; cases h
      · have := h5.2.1; omega
  by_cases h1 : bt t 0 = 45
  · obtain ⟨r, hr, hc⟩ := impl_rd_j1 t (t.extract 1 t.size)
    have e1 : (t.extract 1 t.size).size = t.size - 1 := by rw [ByteArray.size_extract]; omega
    refine ⟨r, Ev_shift ?_, ?_⟩
    · simp only [impl_readDecimal.f, if_pos (show (t.size : Int) > 0 by omega), if_pos (show 0 < (t.size : Int) by omega), h1, beq_self_eq_true]
      simp only [impl_readDecimal.j0, if_true, if_pos (show 1 ≤ (t.size : Int) by omega)]
      exact hr
    · rcases hc with ⟨h5, rfl⟩ | ⟨h5, rfl⟩
      · intro h; cases h
      · intro _ h7 _
        exfalso
        obtain ⟨hD, h8, h9, h10⟩ := h5
        have hne : bt (t.extract 1 t.size) 0 ≠ 48 := fun e => by have := (h10 e).2; omega
        have hb := hD 0 (Nat.le_refl _) (by omega)
        obtain ⟨m, hm⟩ : ∃ m, (t.extract 1 t.size).size = m + 1 := ⟨(t.extract 1 t.size).size - 1, by omega⟩
        have hp : 1 ≤ valF (t.extract 1 t.size) (m + 1) 0 0 := by
          unfold valF
          exact valF_pos _ hD.all m 1 _ (by omega) (by have : bt (t.extract 1 t.size) ((0 : Nat) : Int) = bt (t.extract 1 t.size) 0 := rfl; omega)
        have hq := (valF_range _ hD.all (m + 1) 0 0 (by omega) (by omega)).2
        have hq2 := pow_le18 (m + 1) (by omega)
        rw [hm] at h7
        simp only [if_pos (show m + 1 < t.size by omega)] at h7
        rw [w64 (by omega)] at h7
        omega
  · obtain ⟨r, hr, hc⟩ := impl_rd_j1 t t
    refine ⟨r, Ev_shift ?_, ?_⟩
    · simp only [impl_readDecimal.f, if_pos (show (t.size : Int) > 0 by omega), if_pos (show 0 < (t.size : Int) by omega), beq_eq_false_iff_ne.2 h1]
      simp only [impl_readDecimal.j0, Bool.false_eq_true, if_false]
      exact hr
    · rcases hc with ⟨h5, rfl⟩ | ⟨h5, rfl⟩
      · intro h; cases h
      · intro _ _ h7
        simp only [if_neg (show ¬ t.size < t.size by omega)] at h7 ⊢
        exact (decF_of_val 6 t h5.1.all h5.2.1 (fun e => by have := (h5.2.2.2 e).1; have := h5.2.1; omega) (by simpa using h7) (by omega)).symm
theorem impl_rd_dec (n : Int) (h0 : 0 ≤ n) (h1 : n < 1000000) : Ev (fun k => impl_readDecimal.f k (decF 6 n)) (n, true) := by
  have p6 : (10 : Int) ^ 6 = 1000000 := by decide
  have hsz := decF_size 6 n
  have hp := decF_pos 6 n h0 (by omega) (by omega)
  have hd := decF_digits 6 n h0
  have hv := decF_val 6 n h0 (by omega)
  have hb := hd 0 (by omega) (by omega)
  have hN : NumOf (decF 6 n) (decF 6 n) := ⟨hd.from 0, hp, by omega, fun e => by
    by_cases hn : n = 0
    · subst hn
      exact ⟨Nat.le_refl _, Nat.le_refl _⟩
    · exact absurd e (decF_lead 6 n (by omega) (by omega))⟩
  obtain ⟨r, hr, hc⟩ := impl_rd_j1 (decF 6 n) (decF 6 n)
  have er : r = (n, true) := by
    rcases hc with ⟨h5, _⟩ | ⟨_, h6⟩
    · exact absurd hN h5
    · rw [h6, if_neg (by omega), hv]
  subst er
  refine Ev_shift ?_
  simp only [impl_readDecimal.f, if_pos (show ((decF 6 n).size : Int) > 0 by omega), if_pos (show 0 < ((decF 6 n).size : Int) by omega), beq_eq_false_iff_ne.2 (show bt (decF 6 n) 0 ≠ 45 by omega)]
  simp only [impl_readDecimal.j0, Bool.false_eq_true, if_false]
  exact hr
theorem spec_val_l0 (t : ByteArray) (ht : t.size ≤ 13) : ∀ (d i : Nat) (n : Int), i + d = t.size → 0 ≤ n → n < 10 ^ i →
    ∃ r, Ev (fun k => spec_l01Value.l0 k t n i) r ∧ (DigF t i → r = (valF t d i n, ((decF 18 (valF t d i n)).toList == t.toList)))
  | 0, i, n, hd, h0, h1 => by
    have h18 := pow_le18 i (by omega)
    have e18 : (10 : Int) ^ 18 = 1000000000000000000 := by decide
    refine ⟨(n, ((decF 18 n).toList == t.toList)), Ev_shift ?_, fun _ => rfl⟩
    simp only [spec_l01Value.l0, if_neg (show ¬ (i : Int) < (t.size : Int) by omega)]
    exact Ev.bind (spec_dec 18 n h0 (by omega) (by omega) (by omega) (by omega)) (Ev.now _)
  | d + 1, i, n, hd, h0, h1 => by
    by_cases hb : 48 ≤ bt t i ∧ bt t i ≤ 57
    · obtain ⟨e1, e2, e3⟩ := dig_next (s := t) (by omega) h0 h1 hb
      obtain ⟨r, hr, hc⟩ := spec_val_l0 t ht d (i + 1) (10 * n + (bt t i - 48)) (by omega) e2 e3
      refine ⟨r, Ev_shift ?_, fun h => hc (fun q h4 h5 => h q (by omega) h5)⟩
      simp only [spec_l01Value.l0, if_pos (show (i : Int) < (t.size : Int) by omega), if_pos (show (0 : Int) ≤ (i : Int) by omega), if_neg (show ¬ bt t i < 48 by omega), if_neg (show ¬ bt t i > 57 by omega), e1, w64 (n := (i : Int) + 1) (by omega)]
      exact hr
    · refine ⟨(0, false), Ev_shift ?_, fun h => absurd (h i (Nat.le_refl _) (by omega)) hb⟩
      simp only [spec_l01Value.l0, if_pos (show (i : Int) < (t.size : Int) by omega), if_pos (show (0 : Int) ≤ (i : Int) by omega)]
      by_cases h : bt t i < 48
      · simp only [if_pos h]
        exact Ev.now _
      · simp only [if_neg h, if_pos (show bt t i > 57 by omega)]
        exact Ev.now _
theorem spec_val (t : ByteArray) : ∃ r, Ev (fun k => spec_l01Value.f k t) r ∧ (1 ≤ t.size → t.size ≤ 13 → DigF t 0 → r = (valF t t.size 0 0, ((decF 18 (valF t t.size 0 0)).toList == t.toList))) := by
  by_cases h0 : t.size < 1
  · refine ⟨(0, false), Ev_shift ?_, fun h => by omega⟩
    simp only [spec_l01Value.f, if_pos (show (t.size : Int) < 1 by omega), spec_l01Value.j0, if_true]
    exact Ev.now _
  by_cases h1 : t.size > 13
  · refine ⟨(0, false), Ev_shift ?_, fun _ h => by omega⟩
    simp only [spec_l01Value.f, if_neg (show ¬ (t.size : Int) < 1 by omega), decide_eq_true (show (t.size : Int) > 13 by omega), spec_l01Value.j0, if_true]
    exact Ev.now _
  · obtain ⟨r, hr, hc⟩ := spec_val_l0 t (by omega) t.size 0 0 (by omega) (by omega) (by decide)
    refine ⟨r, Ev_shift ?_, fun _ _ h => hc h⟩
    simp only [spec_l01Value.f, if_neg (show ¬ (t.size : Int) < 1 by omega), decide_eq_false (show ¬ (t.size : Int) > 13 by omega), spec_l01Value.j0, Bool.false_eq_true, if_false]
    exact hr
theorem spec_sgn (t : ByteArray) : ∃ r, Ev (fun k => spec_l01Signed.f k t) r := by
  by_cases h0 : t.size = 0
  · obtain ⟨r, hr, _⟩ := spec_val t
    refine ⟨(r.1, r.2), Ev_shift ?_⟩
    simp only [spec_l01Signed.f, if_neg (show ¬ (t.size : Int) > 0 by omega), spec_l01Signed.j0, Bool.false_eq_true, if_false]
    exact Ev.bind hr (Ev.now _)
  by_cases h1 : bt t 0 = 45
  · obtain ⟨r, hr, _⟩ := spec_val (t.extract 1 t.size)
    refine ⟨(if r.2 = true then (wrap64 (-r.1), decide (r.1 > 0)) else (wrap64 (-r.1), false)), Ev_shift ?_⟩
    simp only [spec_l01Signed.f, if_pos (show (t.size : Int) > 0 by omega), if_pos (show 0 < (t.size : Int) by omega), h1, beq_self_eq_true, spec_l01Signed.j0, if_true, if_pos (show 1 ≤ (t.size : Int) by omega)]
    refine Ev.bind hr ?_
    by_cases h : r.2 = true
    · simp only [if_pos h]
      exact Ev.now _
    · simp only [if_neg h]
      exact Ev.now _
  · obtain ⟨r, hr, _⟩ := spec_val t
    refine ⟨(r.1, r.2), Ev_shift ?_⟩
    simp only [spec_l01Signed.f, if_pos (show (t.size : Int) > 0 by omega), if_pos (show 0 < (t.size : Int) by omega), beq_eq_false_iff_ne.2 h1, spec_l01Signed.j0, Bool.false_eq_true, if_false]
    exact Ev.bind hr (Ev.now _)
theorem spec_sgn_dec (n : Int) (h0 : 0 ≤ n) (h1 : n < 1000000) : Ev (fun k => spec_l01Signed.f k (decF 6 n)) (n, true) := by
  have p6 : (10 : Int) ^ 6 = 1000000 := by decide
  have hsz := decF_size 6 n
  have hp := decF_pos 6 n h0 (by omega) (by omega)
  have hd := decF_digits 6 n h0
  have hv := decF_val 6 n h0 (by omega)
  have hb := hd 0 (by omega) (by omega)
  obtain ⟨r, hr, hc⟩ := spec_val (decF 6 n)
  have hr2 := hc hp (by omega) (hd.from 0)
  have e18 : (10 : Int) ^ 18 = 1000000000000000000 := by decide
  have e := decF_of_val 18 (decF 6 n) hd hp (fun e => by
    by_cases hn : n = 0
    · subst hn
      rfl
    · exact absurd e (decF_lead 6 n (by omega) (by omega))) (by rw [hv]; omega) (by omega)
  rw [e, hv, beq_self_eq_true] at hr2
  subst hr2
  refine Ev_shift ?_
  simp only [spec_l01Signed.f, if_pos (show ((decF 6 n).size : Int) > 0 by omega), if_pos (show 0 < ((decF 6 n).size : Int) by omega), beq_eq_false_iff_ne.2 (show bt (decF 6 n) 0 ≠ 45 by omega), spec_l01Signed.j0, Bool.false_eq_true, if_false]
  exact Ev.bind hr (Ev.now _)
theorem spec_nums_l0 (ws : List ByteArray) (hw : ws.length ≤ 10000000) : ∀ (d i : Nat) (out : List Int), i + d = ws.length → out.length ≤ i → ∃ r, Ev (fun k => spec_l01Numbers.l0 k ws out i) r
  | 0, i, out, hd, ho => by
    refine ⟨(out, true), Ev_shift ?_⟩
    simp only [spec_l01Numbers.l0, if_neg (show ¬ (i : Int) < (ws.length : Int) by omega)]
    exact Ev.now _
  | d + 1, i, out, hd, ho => by
    obtain ⟨r, hr⟩ := spec_sgn (rdOf ByteArray.empty ws i)
    by_cases h : r.2 = true
    · obtain ⟨q, hq⟩ := spec_nums_l0 ws hw d (i + 1) (out ++ [r.1]) (by omega) (by simp; omega)
      refine ⟨q, Ev_shift ?_⟩
      simp only [spec_l01Numbers.l0, if_pos (show (i : Int) < (ws.length : Int) by omega), if_pos (show (0 : Int) ≤ (i : Int) by omega), w64 (n := (i : Int) + 1) (by omega)]
      refine Ev.bind hr ?_
      simp only [if_pos h, if_pos (show out.length < 17592186044416 by omega)]
      exact hq
    · refine ⟨(([] : List Int), false), Ev_shift ?_⟩
      simp only [spec_l01Numbers.l0, if_pos (show (i : Int) < (ws.length : Int) by omega), if_pos (show (0 : Int) ≤ (i : Int) by omega)]
      refine Ev.bind hr ?_
      simp only [if_neg h]
      exact Ev.now _
theorem spec_nums (ws : List ByteArray) (hw : ws.length ≤ 10000000) : ∃ r, Ev (fun k => spec_l01Numbers.f k ws) r := by
  unfold spec_l01Numbers.f
  exact spec_nums_l0 ws hw ws.length 0 [] (by omega) (by simp)
theorem spec_nums4 (a b c d : Int) (ha : 0 ≤ a ∧ a < 1000000) (hb : 0 ≤ b ∧ b < 1000000) (hc : 0 ≤ c ∧ c < 1000000) (hd : 0 ≤ d ∧ d < 1000000) : Ev (fun k => spec_l01Numbers.f k [decF 6 a, decF 6 b, decF 6 c, decF 6 d]) ([a, b, c, d], true) := by
  unfold spec_l01Numbers.f
  have one : ∀ (n : Int) (i : Nat) (out : List Int) (q : List Int × Bool), 0 ≤ n → n < 1000000 → i < 4 → out.length = i → rdOf ByteArray.empty [decF 6 a, decF 6 b, decF 6 c, decF 6 d] i = decF 6 n → Ev (fun k => spec_l01Numbers.l0 k [decF 6 a, decF 6 b, decF 6 c, decF 6 d] (out ++ [n]) ((i + 1 : Nat) : Int)) q → Ev (fun k => spec_l01Numbers.l0 k [decF 6 a, decF 6 b, decF 6 c, decF 6 d] out (i : Int)) q := by
    intro n i out q h0 h1 hi ho e h
    refine Ev_shift ?_
    simp only [spec_l01Numbers.l0, if_pos (show (i : Int) < (([decF 6 a, decF 6 b, decF 6 c, decF 6 d] : List ByteArray).length : Int) by simp; omega), if_pos (show (0 : Int) ≤ (i : Int) by omega), w64 (n := (i : Int) + 1) (by omega), e]
    refine Ev.bind (spec_sgn_dec n h0 h1) ?_
    simp only [if_true, if_pos (show out.length < 17592186044416 by omega)]
    exact h
  refine one a 0 [] _ ha.1 ha.2 (by omega) rfl rfl ?_
  refine one b 1 [a] _ hb.1 hb.2 (by omega) rfl rfl ?_
  refine one c 2 [a, b] _ hc.1 hc.2 (by omega) rfl rfl ?_
  refine one d 3 [a, b, c] _ hd.1 hd.2 (by omega) rfl rfl ?_
  refine Ev_shift ?_
  simp only [spec_l01Numbers.l0, if_neg (show ¬ ((4 : Nat) : Int) < (([decF 6 a, decF 6 b, decF 6 c, decF 6 d] : List ByteArray).length : Int) by simp)]
  exact Ev.now _
theorem word_inj (i j : Int) (hi : 0 ≤ i ∧ i ≤ 3) (hj : 0 ≤ j ∧ j ≤ 3) (h : wordM i = wordM j) : i = j := by
  have hs : (wordM i).size = (wordM j).size := by rw [h]
  obtain rfl | rfl | rfl | rfl : i = 0 ∨ i = 1 ∨ i = 2 ∨ i = 3 := by omega
  all_goals
    obtain rfl | rfl | rfl | rfl : j = 0 ∨ j = 1 ∨ j = 2 ∨ j = 3 := by omega
    all_goals first | rfl | exact absurd hs (by decide)
theorem word_free (i : Int) (b : Int) (hb : b < 97) (hi : 0 ≤ i ∧ i ≤ 3) : Free b (wordM i) := by
  intro q h0 h1
  obtain rfl | rfl | rfl | rfl : i = 0 ∨ i = 1 ∨ i = 2 ∨ i = 3 := by omega
  · have : (wordM 0).size = 6 := rfl
    obtain rfl | rfl | rfl | rfl | rfl | rfl : q = 0 ∨ q = 1 ∨ q = 2 ∨ q = 3 ∨ q = 4 ∨ q = 5 := by omega
    · rw [show bt (wordM 0) 0 = 112 from rfl]; omega
    · rw [show bt (wordM 0) 1 = 101 from rfl]; omega
    · rw [show bt (wordM 0) 2 = 111 from rfl]; omega
    · rw [show bt (wordM 0) 3 = 112 from rfl]; omega
    · rw [show bt (wordM 0) 4 = 108 from rfl]; omega
    · rw [show bt (wordM 0) 5 = 101 from rfl]; omega
  · have : (wordM 1).size = 8 := rfl
    obtain rfl | rfl | rfl | rfl | rfl | rfl | rfl | rfl : q = 0 ∨ q = 1 ∨ q = 2 ∨ q = 3 ∨ q = 4 ∨ q = 5 ∨ q = 6 ∨ q = 7 := by omega
    · rw [show bt (wordM 1) 0 = 98 from rfl]; omega
    · rw [show bt (wordM 1) 1 = 117 from rfl]; omega
    · rw [show bt (wordM 1) 2 = 105 from rfl]; omega
    · rw [show bt (wordM 1) 3 = 108 from rfl]; omega
    · rw [show bt (wordM 1) 4 = 100 from rfl]; omega
    · rw [show bt (wordM 1) 5 = 105 from rfl]; omega
    · rw [show bt (wordM 1) 6 = 110 from rfl]; omega
    · rw [show bt (wordM 1) 7 = 103 from rfl]; omega
  · have : (wordM 2).size = 4 := rfl
    obtain rfl | rfl | rfl | rfl : q = 0 ∨ q = 1 ∨ q = 2 ∨ q = 3 := by omega
    · rw [show bt (wordM 2) 0 = 114 from rfl]; omega
    · rw [show bt (wordM 2) 1 = 111 from rfl]; omega
    · rw [show bt (wordM 2) 2 = 97 from rfl]; omega
    · rw [show bt (wordM 2) 3 = 100 from rfl]; omega
  · have : (wordM 3).size = 5 := rfl
    obtain rfl | rfl | rfl | rfl | rfl : q = 0 ∨ q = 1 ∨ q = 2 ∨ q = 3 ∨ q = 4 := by omega
    · rw [show bt (wordM 3) 0 = 119 from rfl]; omega
    · rw [show bt (wordM 3) 1 = 97 from rfl]; omega
    · rw [show bt (wordM 3) 2 = 116 from rfl]; omega
    · rw [show bt (wordM 3) 3 = 101 from rfl]; omega
    · rw [show bt (wordM 3) 4 = 114 from rfl]; omega
theorem dec_free (n b : Int) (h0 : 0 ≤ n) (hb : b < 48) : Free b (decF 6 n) := fun q h1 h2 => by
  have := decF_digits 6 n h0 q h1 h2
  omega
theorem chr_free (u : UInt8) (b : Int) (h : (u.toNat : Int) ≠ b) : Free b ⟨#[u]⟩ := fun q h1 h2 => by
  have hs : (⟨#[u]⟩ : ByteArray).size = 1 := rfl
  have : q = 0 := by omega
  subst this
  exact h
theorem area_nest (K X Y W D : Int) : areaM K X Y W D = (wordM K ++ (⟨#[32]⟩ : ByteArray)) ++ (((((decF 6 X ++ (⟨#[44]⟩ : ByteArray)) ++ decF 6 Y) ++ (⟨#[43]⟩ : ByteArray)) ++ ((decF 6 W ++ (⟨#[42]⟩ : ByteArray)) ++ decF 6 D))) := by
  unfold areaM
  simp only [ByteArray.append_assoc]
theorem area_split {K X Y W D : Int} (h : PArea K X Y W D) :
    ∃ w h0 h1, splitM (areaM K X Y W D) 32 = [wordM K, w] ∧ splitM w 43 = [h0, h1] ∧ splitM h0 44 = [decF 6 X, decF 6 Y] ∧ splitM h1 42 = [decF 6 W, decF 6 D] ∧ w.size ≤ (areaM K X Y W D).size ∧ h0.size ≤ w.size ∧ h1.size ≤ w.size := by
  unfold PArea at h
  refine ⟨((((decF 6 X ++ (⟨#[44]⟩ : ByteArray)) ++ decF 6 Y) ++ (⟨#[43]⟩ : ByteArray)) ++ ((decF 6 W ++ (⟨#[42]⟩ : ByteArray)) ++ decF 6 D)), ((decF 6 X ++ (⟨#[44]⟩ : ByteArray)) ++ decF 6 Y), ((decF 6 W ++ (⟨#[42]⟩ : ByteArray)) ++ decF 6 D), ?_, ?_, ?_, ?_, ?_, ?_, ?_⟩
  · rw [area_nest]
    exact splitM_two rfl rfl (word_free K 32 (by omega) (by omega)) ((((dec_free X 32 (by omega) (by omega)).app (chr_free 44 32 (by decide))).app (dec_free Y 32 (by omega) (by omega)) |>.app (chr_free 43 32 (by decide))).app (((dec_free W 32 (by omega) (by omega)).app (chr_free 42 32 (by decide))).app (dec_free D 32 (by omega) (by omega))))
  · exact splitM_two rfl rfl (((dec_free X 43 (by omega) (by omega)).app (chr_free 44 43 (by decide))).app (dec_free Y 43 (by omega) (by omega))) (((dec_free W 43 (by omega) (by omega)).app (chr_free 42 43 (by decide))).app (dec_free D 43 (by omega) (by omega)))
  · exact splitM_two rfl rfl (dec_free X 44 (by omega) (by omega)) (dec_free Y 44 (by omega) (by omega))
  · exact splitM_two rfl rfl (dec_free W 42 (by omega) (by omega)) (dec_free D 42 (by omega) (by omega))
  · rw [area_nest]
    simp only [ByteArray.size_append]
    omega
  · simp only [ByteArray.size_append]
    omega
  · simp only [ByteArray.size_append]
    omega
theorem area_size {K X Y W D : Int} : (areaM K X Y W D).size ≤ 36 := by
  have s0 := wordM_size K
  have s1 := decF_size 6 X
  have s2 := decF_size 6 Y
  have s3 := decF_size 6 W
  have s4 := decF_size 6 D
  unfold areaM
  have c1 : (⟨#[32]⟩ : ByteArray).size = 1 := rfl
  have c2 : (⟨#[44]⟩ : ByteArray).size = 1 := rfl
  have c3 : (⟨#[43]⟩ : ByteArray).size = 1 := rfl
  have c4 : (⟨#[42]⟩ : ByteArray).size = 1 := rfl
  simp only [ByteArray.size_append]
  omega
theorem rdOf_size (l : List ByteArray) (i : Int) (N : Nat) (h : ∀ x ∈ l, x.size ≤ N) : (rdOf ByteArray.empty l i).size ≤ N := by
  show (l.getD i.toNat ByteArray.empty).size ≤ N
  rw [List.getD_eq_getElem?_getD]
  by_cases hi : i.toNat < l.length
  · rw [List.getElem?_eq_getElem hi]
    exact h _ (List.getElem_mem hi)
  · rw [List.getElem?_eq_none (by omega)]
    exact Nat.zero_le _
theorem split_rd (s : ByteArray) (b i : Int) : (rdOf ByteArray.empty (splitM s b) i).size ≤ s.size := rdOf_size _ i _ (splitB_size s b _ _ _)
theorem split_two {s : ByteArray} {b : Int} (h : ((splitM s b).length : Int) = 2) : splitM s b = [rdOf ByteArray.empty (splitM s b) 0, rdOf ByteArray.empty (splitM s b) 1] := by
  have h2 : (splitM s b).length = 2 := by omega
  revert h2
  generalize splitM s b = l
  intro h2
  match l, h2 with
  | [x, y], _ => rfl
/-- What reading an area tells: nothing, or an area whose text it is. -/
def RA (s : ByteArray) (r : Int × Int × Int × Int × Int × Int) : Prop := r = (0, 0, 0, 0, 0, 6) ∨ ∃ K X Y W D, PArea K X Y W D ∧ s = areaM K X Y W D ∧ r = (K, X, Y, W, D, 0)
theorem spec_area_fin (s : ByteArray) (x4 : List ByteArray) (K X Y W D : Int) : ∃ r, Ev (fun k => spec_ReadArea.l0 k s x4 4 K X Y W D) r ∧ RA s r ∧ (PArea K X Y W D → s = areaM K X Y W D → r = (K, X, Y, W, D, 0)) := by
  by_cases h : PArea K X Y W D
  · by_cases e : areaM K X Y W D = s
    · refine ⟨(K, X, Y, W, D, 0), Ev_shift ?_, Or.inr ⟨K, X, Y, W, D, h, e.symm, rfl⟩, fun _ _ => rfl⟩
      simp only [spec_ReadArea.l0, if_neg (show ¬ (4 : Int) < 4 by omega), spec_IsArea_eq, Option.bind_some, decide_eq_true h, if_true]
      refine Ev.bind (spec_text h) ?_
      simp only [if_pos ((toList_iff _ _).2 e)]
      exact Ev.now _
    · refine ⟨(0, 0, 0, 0, 0, 6), Ev_shift ?_, Or.inl rfl, fun _ h2 => absurd h2.symm e⟩
      simp only [spec_ReadArea.l0, if_neg (show ¬ (4 : Int) < 4 by omega), spec_IsArea_eq, Option.bind_some, decide_eq_true h, if_true]
      refine Ev.bind (spec_text h) ?_
      simp only [if_neg (fun h2 => e ((toList_iff _ _).1 h2))]
      exact Ev.now _
  · refine ⟨(0, 0, 0, 0, 0, 6), Ev_shift ?_, Or.inl rfl, fun h2 => absurd h2 h⟩
    simp only [spec_ReadArea.l0, if_neg (show ¬ (4 : Int) < 4 by omega), spec_IsArea_eq, Option.bind_some, decide_eq_false h, Bool.false_eq_true, if_false]
    exact Ev.now _
theorem spec_area_l0 (s : ByteArray) (x4 : List ByteArray) (h4 : x4.length = 2) (X Y W D : Int) : ∀ (d i : Nat) (K : Int), i + d = 4 → ∃ r, Ev (fun k => spec_ReadArea.l0 k s x4 i K X Y W D) r ∧ RA s r
  | 0, i, K, hd => by
    have : i = 4 := by omega
    subst this
    obtain ⟨r, h1, h2, _⟩ := spec_area_fin s x4 K X Y W D
    exact ⟨r, h1, h2⟩
  | d + 1, i, K, hd => by
    by_cases e : (wordM i).toList = (rdOf ByteArray.empty x4 0).toList
    · obtain ⟨r, h1, h2⟩ := spec_area_l0 s x4 h4 X Y W D d (i + 1) i (by omega)
      refine ⟨r, Ev_shift ?_, h2⟩
      simp only [spec_ReadArea.l0, if_pos (show (i : Int) < 4 by omega), spec_word_eq (i : Int) (by omega), Option.bind_some, if_pos (show 0 < (x4.length : Int) by omega), if_pos e, w64 (n := (i : Int) + 1) (by omega)]
      exact h1
    · obtain ⟨r, h1, h2⟩ := spec_area_l0 s x4 h4 X Y W D d (i + 1) K (by omega)
      refine ⟨r, Ev_shift ?_, h2⟩
      simp only [spec_ReadArea.l0, if_pos (show (i : Int) < 4 by omega), spec_word_eq (i : Int) (by omega), Option.bind_some, if_pos (show 0 < (x4.length : Int) by omega), if_neg e, w64 (n := (i : Int) + 1) (by omega)]
      exact h1
theorem spec_area_ok {K X Y W D : Int} (h : PArea K X Y W D) (u : ByteArray) : ∀ (d i : Nat) (K' : Int), i + d = 4 → (K < i → K' = K) → Ev (fun k => spec_ReadArea.l0 k (areaM K X Y W D) [wordM K, u] i K' X Y W D) (K, X, Y, W, D, 0)
  | 0, i, K', hd, hk => by
    have hi : i = 4 := by omega
    subst hi
    have hK : K' = K := hk (by unfold PArea at h; omega)
    subst hK
    obtain ⟨r, h1, _, h3⟩ := spec_area_fin (areaM K' X Y W D) [wordM K', u] K' X Y W D
    exact Ev_eq h1 (h3 h rfl)
  | d + 1, i, K', hd, hk => by
    have hK : 0 ≤ K ∧ K ≤ 3 := by unfold PArea at h; omega
    by_cases e : (wordM i).toList = (wordM K).toList
    · have e2 : (i : Int) = K := word_inj _ _ (by omega) hK ((toList_iff _ _).1 e)
      refine Ev_shift ?_
      simp only [spec_ReadArea.l0, if_pos (show (i : Int) < 4 by omega), spec_word_eq (i : Int) (by omega), Option.bind_some, if_pos (show 0 < (([wordM K, u] : List ByteArray).length : Int) by simp), show rdOf ByteArray.empty [wordM K, u] 0 = wordM K from rfl, if_pos e, w64 (n := (i : Int) + 1) (by omega)]
      exact spec_area_ok h u d (i + 1) (i : Int) (by omega) (fun _ => e2)
    · refine Ev_shift ?_
      simp only [spec_ReadArea.l0, if_pos (show (i : Int) < 4 by omega), spec_word_eq (i : Int) (by omega), Option.bind_some, if_pos (show 0 < (([wordM K, u] : List ByteArray).length : Int) by simp), show rdOf ByteArray.empty [wordM K, u] 0 = wordM K from rfl, if_neg e, w64 (n := (i : Int) + 1) (by omega)]
      refine spec_area_ok h u d (i + 1) K' (by omega) (fun h2 => hk ?_)
      rcases Int.lt_or_eq_of_le (show K ≤ i by omega) with h3 | h3
      · exact h3
      · exact absurd (by rw [h3]) e
theorem spec_read (s : ByteArray) (hs : s.size ≤ 1000000) : ∃ r, Ev (fun k => spec_ReadArea.f k s) r ∧ RA s r := by
  unfold spec_ReadArea.f
  by_cases h1 : ((splitM s 32).length : Int) = 2
  · have z1 := split_rd s 32 1
    obtain ⟨w, hw⟩ : ∃ w, w = rdOf ByteArray.empty (splitM s 32) 1 := ⟨_, rfl⟩
    rw [← hw] at z1
    by_cases h2 : ((splitM w 43).length : Int) = 2
    · have z2 := split_rd w 43 0
      have z3 := split_rd w 43 1
      obtain ⟨a, ha⟩ : ∃ a, a = rdOf ByteArray.empty (splitM w 43) 0 := ⟨_, rfl⟩
      obtain ⟨b, hb⟩ : ∃ b, b = rdOf ByteArray.empty (splitM w 43) 1 := ⟨_, rfl⟩
      rw [← ha] at z2
      rw [← hb] at z3
      have l1 := (splitB_len a 44 a.size 0 0).2
      have l2 := (splitB_len b 42 b.size 0 0).2
      obtain ⟨q, hq⟩ := spec_nums (splitM a 44 ++ splitM b 42) (by rw [List.length_append]; unfold splitM; omega)
      have hj : ∃ r, Ev (fun k => if q.2 = true then spec_ReadArea.j0 k s (splitM s 32) q.1 ((q.1.length : Int) != 4) else spec_ReadArea.j0 k s (splitM s 32) q.1 true) r ∧ RA s r := by
        by_cases h3 : q.2 = true ∧ (q.1.length : Int) = 4
        · obtain ⟨r, hr, hR⟩ := spec_area_l0 s (splitM s 32) (by omega) (rd q.1 0) (rd q.1 1) (rd q.1 2) (rd q.1 3) 4 0 (-1) (by omega)
          refine ⟨r, Ev_shift ?_, hR⟩
          simp only [if_pos h3.1, spec_ReadArea.j0, bne_eq_false_iff_eq.mpr h3.2, Bool.false_eq_true, if_false, if_pos (show 0 < (q.1.length : Int) by omega), if_pos (show 1 < (q.1.length : Int) by omega), if_pos (show 2 < (q.1.length : Int) by omega), if_pos (show 3 < (q.1.length : Int) by omega)]
          exact hr
        · refine ⟨(0, 0, 0, 0, 0, 6), Ev_shift ?_, Or.inl rfl⟩
          by_cases h4 : q.2 = true
          · simp only [if_pos h4, spec_ReadArea.j0, bne_iff_ne.mpr (fun e => h3 ⟨h4, e⟩), if_true]
            exact Ev.now _
          · simp only [if_neg h4, spec_ReadArea.j0, if_true]
            exact Ev.now _
      obtain ⟨r, hr, hR⟩ := hj
      refine ⟨r, Ev.bind (spec_split s 32 hs) ?_, hR⟩
      simp only [if_pos h1, if_pos (show 1 < ((splitM s 32).length : Int) by omega), ← hw]
      refine Ev.bind (spec_split w 43 (by omega)) ?_
      simp only [if_pos h2, if_pos (show 0 < ((splitM w 43).length : Int) by omega), if_pos (show 1 < ((splitM w 43).length : Int) by omega), ← ha, ← hb]
      refine Ev.bind (spec_split a 44 (by omega)) ?_
      refine Ev.bind (spec_split b 42 (by omega)) ?_
      simp only [if_pos (show (splitM a 44).length + (splitM b 42).length < 8796093022208 by unfold splitM; omega)]
      exact Ev.bind hq hr
    · refine ⟨(0, 0, 0, 0, 0, 6), Ev.bind (spec_split s 32 hs) ?_, Or.inl rfl⟩
      simp only [if_pos h1, if_pos (show 1 < ((splitM s 32).length : Int) by omega), ← hw]
      refine Ev.bind (spec_split w 43 (by omega)) ?_
      simp only [if_neg h2]
      exact Ev.now _
  · refine ⟨(0, 0, 0, 0, 0, 6), Ev.bind (spec_split s 32 hs) ?_, Or.inl rfl⟩
    simp only [if_neg h1]
    exact Ev.now _
theorem spec_read_ok {K X Y W D : Int} (h : PArea K X Y W D) : Ev (fun k => spec_ReadArea.f k (areaM K X Y W D)) (K, X, Y, W, D, 0) := by
  obtain ⟨w, a, b, e1, e2, e3, e4, z1, z2, z3⟩ := area_split h
  have zs := area_size (K := K) (X := X) (Y := Y) (W := W) (D := D)
  unfold spec_ReadArea.f
  refine Ev.bind (Ev_eq (spec_split _ 32 (by omega)) e1) ?_
  simp only [if_pos (show (([wordM K, w] : List ByteArray).length : Int) = 2 from rfl), if_pos (show 1 < (([wordM K, w] : List ByteArray).length : Int) by simp), show rdOf ByteArray.empty [wordM K, w] 1 = w from rfl]
  refine Ev.bind (Ev_eq (spec_split w 43 (by omega)) e2) ?_
  simp only [if_pos (show (([a, b] : List ByteArray).length : Int) = 2 from rfl), if_pos (show 0 < (([a, b] : List ByteArray).length : Int) by simp), if_pos (show 1 < (([a, b] : List ByteArray).length : Int) by simp), show rdOf ByteArray.empty [a, b] 0 = a from rfl, show rdOf ByteArray.empty [a, b] 1 = b from rfl]
  refine Ev.bind (Ev_eq (spec_split a 44 (by omega)) e3) ?_
  refine Ev.bind (Ev_eq (spec_split b 42 (by omega)) e4) ?_
  have hP := h
  unfold PArea at h
  simp only [if_pos (show ([decF 6 X, decF 6 Y] : List ByteArray).length + ([decF 6 W, decF 6 D] : List ByteArray).length < 8796093022208 by simp), List.cons_append, List.nil_append]
  refine Ev.bind (spec_nums4 X Y W D (by omega) (by omega) (by omega) (by omega)) ?_
  refine Ev_shift ?_
  simp only [if_true, spec_ReadArea.j0, show ((([X, Y, W, D] : List Int).length : Int) != 4) = false from rfl, Bool.false_eq_true, if_false, if_pos (show 0 < (([X, Y, W, D] : List Int).length : Int) by simp), if_pos (show 1 < (([X, Y, W, D] : List Int).length : Int) by simp), if_pos (show 2 < (([X, Y, W, D] : List Int).length : Int) by simp), if_pos (show 3 < (([X, Y, W, D] : List Int).length : Int) by simp), show rd [X, Y, W, D] 0 = X from rfl, show rd [X, Y, W, D] 1 = Y from rfl, show rd [X, Y, W, D] 2 = W from rfl, show rd [X, Y, W, D] 3 = D from rfl]
  exact spec_area_ok hP w 4 0 (-1) (by omega) (fun h2 => by have : ((0 : Nat) : Int) = 0 := rfl; omega)
theorem impl_area_l1 (x4 : List ByteArray) (h4 : x4.length = 2) (X Y W D : Int) : ∀ (d i : Nat), i + d = 4 → ∃ r, Ev (fun k => impl_ReadArea.l1 k x4 [X, Y, W, D] i) r ∧ (r = (0, 0, 0, 0, 0, 6) ∨ ∃ K, PArea K X Y W D ∧ rdOf ByteArray.empty x4 0 = wordM K ∧ r = (K, X, Y, W, D, 0))
  | 0, i, hd => by
    have hi : i = 4 := by omega
    subst hi
    refine ⟨(0, 0, 0, 0, 0, 6), Ev_shift ?_, Or.inl rfl⟩
    simp only [impl_ReadArea.l1, if_neg (show ¬ ((4 : Nat) : Int) ≤ 3 by omega)]
    exact Ev.now _
  | d + 1, i, hd => by
    obtain ⟨r, hr, hc⟩ := impl_area_l1 x4 h4 X Y W D d (i + 1) (by omega)
    by_cases e : (wordM i).toList = (rdOf ByteArray.empty x4 0).toList
    · by_cases hP : PArea i X Y W D
      · refine ⟨(i, X, Y, W, D, 0), Ev_shift ?_, Or.inr ⟨i, hP, ((toList_iff _ _).1 e).symm, rfl⟩⟩
        simp only [impl_ReadArea.l1, if_pos (show (i : Int) ≤ 3 by omega), impl_word_eq, impl_IsArea_eq, Option.bind_some, if_pos (show 0 < (x4.length : Int) by omega), if_pos e, if_pos (show 0 < (([X, Y, W, D] : List Int).length : Int) by simp), if_pos (show 1 < (([X, Y, W, D] : List Int).length : Int) by simp), if_pos (show 2 < (([X, Y, W, D] : List Int).length : Int) by simp), if_pos (show 3 < (([X, Y, W, D] : List Int).length : Int) by simp), show rd [X, Y, W, D] 0 = X from rfl, show rd [X, Y, W, D] 1 = Y from rfl, show rd [X, Y, W, D] 2 = W from rfl, show rd [X, Y, W, D] 3 = D from rfl, decide_eq_true hP, if_true]
        exact Ev.now _
      · refine ⟨r, Ev_shift ?_, hc⟩
        simp only [impl_ReadArea.l1, if_pos (show (i : Int) ≤ 3 by omega), impl_word_eq, impl_IsArea_eq, Option.bind_some, if_pos (show 0 < (x4.length : Int) by omega), if_pos e, if_pos (show 0 < (([X, Y, W, D] : List Int).length : Int) by simp), if_pos (show 1 < (([X, Y, W, D] : List Int).length : Int) by simp), if_pos (show 2 < (([X, Y, W, D] : List Int).length : Int) by simp), if_pos (show 3 < (([X, Y, W, D] : List Int).length : Int) by simp), show rd [X, Y, W, D] 0 = X from rfl, show rd [X, Y, W, D] 1 = Y from rfl, show rd [X, Y, W, D] 2 = W from rfl, show rd [X, Y, W, D] 3 = D from rfl, decide_eq_false hP, Bool.false_eq_true, if_false, w64 (n := (i : Int) + 1) (by omega)]
        exact hr
    · refine ⟨r, Ev_shift ?_, hc⟩
      simp only [impl_ReadArea.l1, if_pos (show (i : Int) ≤ 3 by omega), impl_word_eq, Option.bind_some, if_pos (show 0 < (x4.length : Int) by omega), if_neg e, if_pos (show 0 < (([X, Y, W, D] : List Int).length : Int) by simp), if_pos (show 1 < (([X, Y, W, D] : List Int).length : Int) by simp), if_pos (show 2 < (([X, Y, W, D] : List Int).length : Int) by simp), if_pos (show 3 < (([X, Y, W, D] : List Int).length : Int) by simp), w64 (n := (i : Int) + 1) (by omega)]
      exact hr
theorem impl_area_ok {K X Y W D : Int} (h : PArea K X Y W D) (u : ByteArray) : ∀ (d i : Nat), (i : Int) + d = K → Ev (fun k => impl_ReadArea.l1 k [wordM K, u] [X, Y, W, D] i) (K, X, Y, W, D, 0)
  | 0, i, hd => by
    have hi : (i : Int) = K := by omega
    have hK : 0 ≤ K ∧ K ≤ 3 := by unfold PArea at h; omega
    refine Ev_shift ?_
    simp only [hi, impl_ReadArea.l1, if_pos hK.2, impl_word_eq, impl_IsArea_eq, Option.bind_some, if_pos (show 0 < (([wordM K, u] : List ByteArray).length : Int) by simp), show rdOf ByteArray.empty [wordM K, u] 0 = wordM K from rfl, if_true, if_pos (show 0 < (([X, Y, W, D] : List Int).length : Int) by simp), if_pos (show 1 < (([X, Y, W, D] : List Int).length : Int) by simp), if_pos (show 2 < (([X, Y, W, D] : List Int).length : Int) by simp), if_pos (show 3 < (([X, Y, W, D] : List Int).length : Int) by simp), show rd [X, Y, W, D] 0 = X from rfl, show rd [X, Y, W, D] 1 = Y from rfl, show rd [X, Y, W, D] 2 = W from rfl, show rd [X, Y, W, D] 3 = D from rfl, decide_eq_true h]
    exact Ev.now _
  | d + 1, i, hd => by
    have hK : 0 ≤ K ∧ K ≤ 3 := by unfold PArea at h; omega
    have e : ¬ (wordM i).toList = (wordM K).toList := fun e => by
      have := word_inj _ _ (by omega) hK ((toList_iff _ _).1 e)
      omega
    refine Ev_shift ?_
    simp only [impl_ReadArea.l1, if_pos (show (i : Int) ≤ 3 by omega), impl_word_eq, Option.bind_some, if_pos (show 0 < (([wordM K, u] : List ByteArray).length : Int) by simp), show rdOf ByteArray.empty [wordM K, u] 0 = wordM K from rfl, if_neg e, if_pos (show 0 < (([X, Y, W, D] : List Int).length : Int) by simp), if_pos (show 1 < (([X, Y, W, D] : List Int).length : Int) by simp), if_pos (show 2 < (([X, Y, W, D] : List Int).length : Int) by simp), if_pos (show 3 < (([X, Y, W, D] : List Int).length : Int) by simp), w64 (n := (i : Int) + 1) (by omega)]
    exact impl_area_ok h u d (i + 1) (by omega)
theorem impl_l0_step (x4 y : List ByteArray) (hy : y.length = 4) (x8 : List Int) (h8 : x8.length = 4) (i : Nat) (hi : i < 4) (r : Int × Bool) (hr : Ev (fun k => impl_readDecimal.f k (rdOf ByteArray.empty y i)) r) :
    (∀ q, r.2 = true → Ev (fun k => impl_ReadArea.l0 k x4 (x8.set i r.1) y 4 ((i + 1 : Nat) : Int)) q → Ev (fun k => impl_ReadArea.l0 k x4 x8 y 4 i) q) ∧ (¬ r.2 = true → Ev (fun k => impl_ReadArea.l0 k x4 x8 y 4 i) (0, 0, 0, 0, 0, 6)) := by
  constructor
  · intro q h hq
    refine Ev_shift ?_
    simp only [impl_ReadArea.l0, if_pos (show (i : Int) < 4 by omega), if_pos (show (0 : Int) ≤ (i : Int) by omega), if_pos (show (i : Int) < (y.length : Int) by omega), w64 (n := (i : Int) + 1) (by omega), Int.toNat_natCast]
    refine Ev.bind hr ?_
    simp only [if_pos h, if_pos (show (i : Int) < (x8.length : Int) by omega)]
    exact hq
  · intro h
    refine Ev_shift ?_
    simp only [impl_ReadArea.l0, if_pos (show (i : Int) < 4 by omega), if_pos (show (0 : Int) ≤ (i : Int) by omega), if_pos (show (i : Int) < (y.length : Int) by omega)]
    refine Ev.bind hr ?_
    simp only [if_neg h]
    exact Ev.now _
theorem impl_l0_end (x4 y : List ByteArray) (x8 : List Int) (q : Int × Int × Int × Int × Int × Int) (h : Ev (fun k => impl_ReadArea.l1 k x4 x8 0) q) : Ev (fun k => impl_ReadArea.l0 k x4 x8 y 4 ((4 : Nat) : Int)) q := by
  refine Ev_shift ?_
  simp only [impl_ReadArea.l0, if_neg (show ¬ ((4 : Nat) : Int) < 4 by omega)]
  exact h
theorem impl_four (s : ByteArray) (x4 : List ByteArray) (h4 : x4.length = 2) (a b c d : ByteArray) (hS : ∀ K X Y W D, PArea K X Y W D → a = decF 6 X → b = decF 6 Y → c = decF 6 W → d = decF 6 D → rdOf ByteArray.empty x4 0 = wordM K → s = areaM K X Y W D) : ∃ r, Ev (fun k => impl_ReadArea.l0 k x4 [0, 0, 0, 0] [a, b, c, d] 4 ((0 : Nat) : Int)) r ∧ RA s r := by
  obtain ⟨ra, ha, pa⟩ := impl_rd a
  obtain ⟨rb, hb, pb⟩ := impl_rd b
  obtain ⟨rc, hc, pc⟩ := impl_rd c
  obtain ⟨re, he, pe⟩ := impl_rd d
  have sa := impl_l0_step x4 [a, b, c, d] rfl [0, 0, 0, 0] rfl 0 (by omega) ra ha
  by_cases h1 : ra.2 = true
  · have sb := impl_l0_step x4 [a, b, c, d] rfl [ra.1, 0, 0, 0] rfl 1 (by omega) rb hb
    by_cases h2 : rb.2 = true
    · have sc := impl_l0_step x4 [a, b, c, d] rfl [ra.1, rb.1, 0, 0] rfl 2 (by omega) rc hc
      by_cases h3 : rc.2 = true
      · have sd := impl_l0_step x4 [a, b, c, d] rfl [ra.1, rb.1, rc.1, 0] rfl 3 (by omega) re he
        by_cases h5 : re.2 = true
        · obtain ⟨r, hr, hR⟩ := impl_area_l1 x4 h4 ra.1 rb.1 rc.1 re.1 4 0 (by omega)
          refine ⟨r, sa.1 _ h1 (sb.1 _ h2 (sc.1 _ h3 (sd.1 _ h5 (impl_l0_end _ _ _ _ hr)))), ?_⟩
          rcases hR with e | ⟨K, hP, hw, e⟩
          · exact Or.inl e
          · refine Or.inr ⟨K, ra.1, rb.1, rc.1, re.1, hP, ?_, e⟩
            have hP2 := hP
            unfold PArea at hP2
            exact hS K _ _ _ _ hP (pa h1 (by omega) (by omega)) (pb h2 (by omega) (by omega)) (pc h3 (by omega) (by omega)) (pe h5 (by omega) (by omega)) hw
        · exact ⟨_, sa.1 _ h1 (sb.1 _ h2 (sc.1 _ h3 (sd.2 h5))), Or.inl rfl⟩
      · exact ⟨_, sa.1 _ h1 (sb.1 _ h2 (sc.2 h3)), Or.inl rfl⟩
    · exact ⟨_, sa.1 _ h1 (sb.2 h2), Or.inl rfl⟩
  · exact ⟨_, sa.2 h1, Or.inl rfl⟩
theorem impl_read (s : ByteArray) (hs : s.size ≤ 1000000) : ∃ r, Ev (fun k => impl_ReadArea.f k s) r ∧ RA s r := by
  unfold impl_ReadArea.f
  by_cases h1 : ((splitM s 32).length : Int) = 2
  · have z1 := split_rd s 32 1
    have t1 := split_two h1
    obtain ⟨w, hw⟩ : ∃ w, w = rdOf ByteArray.empty (splitM s 32) 1 := ⟨_, rfl⟩
    rw [← hw] at z1 t1
    by_cases h2 : ((splitM w 43).length : Int) = 2
    · have z2 := split_rd w 43 0
      have z3 := split_rd w 43 1
      have t2 := split_two h2
      obtain ⟨a, ha⟩ : ∃ a, a = rdOf ByteArray.empty (splitM w 43) 0 := ⟨_, rfl⟩
      obtain ⟨b, hb⟩ : ∃ b, b = rdOf ByteArray.empty (splitM w 43) 1 := ⟨_, rfl⟩
      rw [← ha] at z2 t2
      rw [← hb] at z3 t2
      have hj : ∃ r, Ev (fun k => if ((splitM a 44).length : Int) = 2 then impl_ReadArea.j0 k (splitM s 32) (splitM a 44) (splitM b 42) (((splitM b 42).length : Int) != 2) else impl_ReadArea.j0 k (splitM s 32) (splitM a 44) (splitM b 42) true) r ∧ RA s r := by
        by_cases h3 : ((splitM a 44).length : Int) = 2 ∧ ((splitM b 42).length : Int) = 2
        · have t3 := split_two h3.1
          have t4 := split_two h3.2
          obtain ⟨r, hr, hR⟩ := impl_four s (splitM s 32) (by omega) (rdOf ByteArray.empty (splitM a 44) 0) (rdOf ByteArray.empty (splitM a 44) 1) (rdOf ByteArray.empty (splitM b 42) 0) (rdOf ByteArray.empty (splitM b 42) 1) (fun K X Y W D hP e1 e2 e3 e4 e5 => by
            rw [e1, e2] at t3
            rw [e3, e4] at t4
            rw [e5] at t1
            have j1 := splitM_join t1 (c := ⟨#[32]⟩) rfl rfl
            have j2 := splitM_join t2 (c := ⟨#[43]⟩) rfl rfl
            have j3 := splitM_join t3 (c := ⟨#[44]⟩) rfl rfl
            have j4 := splitM_join t4 (c := ⟨#[42]⟩) rfl rfl
            rw [j1, j2, j3, j4, area_nest])
          refine ⟨r, Ev_shift ?_, hR⟩
          simp only [if_pos h3.1, impl_ReadArea.j0, bne_eq_false_iff_eq.mpr h3.2, Bool.false_eq_true, if_false, if_pos (show 0 < ((splitM a 44).length : Int) by omega), if_pos (show 1 < ((splitM a 44).length : Int) by omega), if_pos (show 0 < ((splitM b 42).length : Int) by omega), if_pos (show 1 < ((splitM b 42).length : Int) by omega), Option.bind_some]
          exact hr
        · refine ⟨(0, 0, 0, 0, 0, 6), Ev_shift ?_, Or.inl rfl⟩
          by_cases h4 : ((splitM a 44).length : Int) = 2
          · simp only [if_pos h4, impl_ReadArea.j0, bne_iff_ne.mpr (fun e => h3 ⟨h4, e⟩), if_true]
            exact Ev.now _
          · simp only [if_neg h4, impl_ReadArea.j0, if_true]
            exact Ev.now _
      obtain ⟨r, hr, hR⟩ := hj
      refine ⟨r, Ev.bind (impl_split s 32 hs) ?_, hR⟩
      simp only [if_pos h1, if_pos (show 1 < ((splitM s 32).length : Int) by omega), ← hw]
      refine Ev.bind (impl_split w 43 (by omega)) ?_
      simp only [if_pos h2, if_pos (show 0 < ((splitM w 43).length : Int) by omega), if_pos (show 1 < ((splitM w 43).length : Int) by omega), ← ha, ← hb]
      refine Ev.bind (impl_split a 44 (by omega)) ?_
      exact Ev.bind (impl_split b 42 (by omega)) hr
    · refine ⟨(0, 0, 0, 0, 0, 6), Ev.bind (impl_split s 32 hs) ?_, Or.inl rfl⟩
      simp only [if_pos h1, if_pos (show 1 < ((splitM s 32).length : Int) by omega), ← hw]
      refine Ev.bind (impl_split w 43 (by omega)) ?_
      simp only [if_neg h2]
      exact Ev.now _
  · refine ⟨(0, 0, 0, 0, 0, 6), Ev.bind (impl_split s 32 hs) ?_, Or.inl rfl⟩
    simp only [if_neg h1]
    exact Ev.now _
theorem impl_read_ok {K X Y W D : Int} (h : PArea K X Y W D) : Ev (fun k => impl_ReadArea.f k (areaM K X Y W D)) (K, X, Y, W, D, 0) := by
  obtain ⟨w, a, b, e1, e2, e3, e4, z1, z2, z3⟩ := area_split h
  have zs := area_size (K := K) (X := X) (Y := Y) (W := W) (D := D)
  unfold impl_ReadArea.f
  refine Ev.bind (Ev_eq (impl_split _ 32 (by omega)) e1) ?_
  simp only [if_pos (show (([wordM K, w] : List ByteArray).length : Int) = 2 from rfl), if_pos (show 1 < (([wordM K, w] : List ByteArray).length : Int) by simp), show rdOf ByteArray.empty [wordM K, w] 1 = w from rfl]
  refine Ev.bind (Ev_eq (impl_split w 43 (by omega)) e2) ?_
  simp only [if_pos (show (([a, b] : List ByteArray).length : Int) = 2 from rfl), if_pos (show 0 < (([a, b] : List ByteArray).length : Int) by simp), if_pos (show 1 < (([a, b] : List ByteArray).length : Int) by simp), show rdOf ByteArray.empty [a, b] 0 = a from rfl, show rdOf ByteArray.empty [a, b] 1 = b from rfl]
  refine Ev.bind (Ev_eq (impl_split a 44 (by omega)) e3) ?_
  refine Ev.bind (Ev_eq (impl_split b 42 (by omega)) e4) ?_
  have hP := h
  unfold PArea at h
  refine Ev_shift ?_
  simp only [if_pos (show (([decF 6 X, decF 6 Y] : List ByteArray).length : Int) = 2 from rfl), impl_ReadArea.j0, show ((([decF 6 W, decF 6 D] : List ByteArray).length : Int) != 2) = false from rfl, Bool.false_eq_true, if_false, if_pos (show 0 < (([decF 6 X, decF 6 Y] : List ByteArray).length : Int) by simp), if_pos (show 1 < (([decF 6 X, decF 6 Y] : List ByteArray).length : Int) by simp), if_pos (show 0 < (([decF 6 W, decF 6 D] : List ByteArray).length : Int) by simp), if_pos (show 1 < (([decF 6 W, decF 6 D] : List ByteArray).length : Int) by simp), Option.bind_some, show rdOf ByteArray.empty [decF 6 X, decF 6 Y] 0 = decF 6 X from rfl, show rdOf ByteArray.empty [decF 6 X, decF 6 Y] 1 = decF 6 Y from rfl, show rdOf ByteArray.empty [decF 6 W, decF 6 D] 0 = decF 6 W from rfl, show rdOf ByteArray.empty [decF 6 W, decF 6 D] 1 = decF 6 D from rfl]
  refine (impl_l0_step _ [decF 6 X, decF 6 Y, decF 6 W, decF 6 D] rfl [0, 0, 0, 0] rfl 0 (by omega) (X, true) (impl_rd_dec X (by omega) (by omega))).1 _ rfl ?_
  refine (impl_l0_step _ [decF 6 X, decF 6 Y, decF 6 W, decF 6 D] rfl [X, 0, 0, 0] rfl 1 (by omega) (Y, true) (impl_rd_dec Y (by omega) (by omega))).1 _ rfl ?_
  refine (impl_l0_step _ [decF 6 X, decF 6 Y, decF 6 W, decF 6 D] rfl [X, Y, 0, 0] rfl 2 (by omega) (W, true) (impl_rd_dec W (by omega) (by omega))).1 _ rfl ?_
  refine (impl_l0_step _ [decF 6 X, decF 6 Y, decF 6 W, decF 6 D] rfl [X, Y, W, 0] rfl 3 (by omega) (D, true) (impl_rd_dec D (by omega) (by omega))).1 _ rfl ?_
  exact impl_l0_end _ _ _ _ (impl_area_ok hP w K.toNat 0 (by omega))
theorem agree_ReadArea (s : ByteArray) (hs : s.size ≤ 1000000) : ∃ r, Ev (fun k => spec_ReadArea.f k s) r ∧ Ev (fun k => impl_ReadArea.f k s) r ∧ RA s r := by
  by_cases h : ∃ K X Y W D, PArea K X Y W D ∧ s = areaM K X Y W D
  · obtain ⟨K, X, Y, W, D, hP, rfl⟩ := h
    exact ⟨_, spec_read_ok hP, impl_read_ok hP, Or.inr ⟨K, X, Y, W, D, hP, rfl, rfl⟩⟩
  · obtain ⟨r, hr, hR⟩ := spec_read s hs
    obtain ⟨q, hq, hQ⟩ := impl_read s hs
    have e1 : r = (0, 0, 0, 0, 0, 6) := by
      rcases hR with e | ⟨K, X, Y, W, D, hP, hs2, _⟩
      · exact e
      · exact absurd ⟨K, X, Y, W, D, hP, hs2⟩ h
    have e2 : q = (0, 0, 0, 0, 0, 6) := by
      rcases hQ with e | ⟨K, X, Y, W, D, hP, hs2, _⟩
      · exact e
      · exact absurd ⟨K, X, Y, W, D, hP, hs2⟩ h
    subst e1
    subst e2
    exact ⟨_, hr, hq, Or.inl rfl⟩
theorem spec_AreaText_pos {K X Y W D : Int} (h : PArea K X Y W D) : Ev (fun k => spec_AreaText.f k K X Y W D) (areaM K X Y W D, 0) := by
  unfold spec_AreaText.f
  rw [spec_IsArea_eq]
  simp only [Option.bind_some, decide_eq_true h, if_true]
  exact Ev.bind (spec_text h) (Ev.now _)
theorem impl_AreaText_pos {K X Y W D : Int} (h : PArea K X Y W D) : Ev (fun k => impl_AreaText.f k K X Y W D) (areaM K X Y W D, 0) := by
  unfold impl_AreaText.f
  rw [impl_IsArea_eq]
  simp only [Option.bind_some, decide_eq_true h, if_true]
  exact Ev.bind (impl_text h) (Ev.now _)
theorem spec_AreaText_neg {K X Y W D : Int} (h : ¬ PArea K X Y W D) : Ev (fun k => spec_AreaText.f k K X Y W D) (⟨#[]⟩, 1) := by
  unfold spec_AreaText.f
  rw [spec_IsArea_eq]
  simp only [Option.bind_some, decide_eq_false h, Bool.false_eq_true, if_false]
  exact Ev.now _
theorem impl_AreaText_neg {K X Y W D : Int} (h : ¬ PArea K X Y W D) : Ev (fun k => impl_AreaText.f k K X Y W D) (⟨#[]⟩, 1) := by
  unfold impl_AreaText.f
  rw [impl_IsArea_eq]
  simp only [Option.bind_some, decide_eq_false h, Bool.false_eq_true, if_false]
  exact Ev.now _
theorem good15_area {c : List Int} {a s : Int} (h : Src c a s) : ∃ k x y w d a' s', spec_l15Good.f c a s = some (k, x, y, w, d, a', s') ∧ Src c a' s' ∧ PArea k x y w d := by
  obtain ⟨v1, a1, s1, e1, h1, p1, q1⟩ := next_some h 4 (by omega)
  obtain ⟨v2, a2, s2, e2, h2, p2, q2⟩ := next_some h1 2000 (by omega)
  obtain ⟨v3, a3, s3, e3, h3, p3, q3⟩ := next_some h2 2000 (by omega)
  obtain ⟨v4, a4, s4, e4, h4, p4, q4⟩ := next_some h3 400 (by omega)
  obtain ⟨v5, a5, s5, e5, h5, p5, q5⟩ := next_some h4 400 (by omega)
  refine ⟨v1, v2, v3, 1 + v4, 1 + v5, a5, s5, ?_, h5, ?_⟩
  · unfold spec_l15Good.f
    simp only [e1, e2, e3, e4, e5, Option.bind_some, w64 (n := 1 + v4) (by omega), w64 (n := 1 + v5) (by omega)]
  · unfold PArea
    omega
theorem damage_some {c : List Int} {a s : Int} (h : Src c a s) (t : ByteArray) (ht : t.size ≤ 100) : ∃ u a' s', spec_l01Damage.f c a s t = some (u, a', s') ∧ u.size ≤ 1000 := by
  obtain ⟨v1, a1, s1, e1, h1, p1, q1⟩ := next_some h ((t.size : Int) + 1) (by omega)
  obtain ⟨v2, a2, s2, e2, h2, p2, q2⟩ := next_some h1 8 (by omega)
  unfold spec_l01Damage.f
  simp only [w64 (n := (t.size : Int) + 1) (by omega), e1, e2, Option.bind_some]
  have hv : v1 ≤ (t.size : Int) := by omega
  have z0 : (t.extract 0 v1.toNat).size = v1.toNat := by rw [ByteArray.size_extract]; omega
  have z1 : (t.extract v1.toNat t.size).size = t.size - v1.toNat := by rw [ByteArray.size_extract]; omega
  by_cases c0 : v2 = 0
  · simp only [if_pos c0, if_pos p1, if_pos hv]
    exact ⟨_, _, _, rfl, by omega⟩
  · by_cases c1 : v2 = 1
    · obtain ⟨v3, a3, s3, e3, h3, p3, q3⟩ := next_some h2 8 (by omega)
      have z2 := rdOf_size ([(⟨#[48]⟩ : ByteArray), (⟨#[35]⟩ : ByteArray), (⟨#[46]⟩ : ByteArray), (⟨#[47]⟩ : ByteArray), (⟨#[32]⟩ : ByteArray), (⟨#[97]⟩ : ByteArray), (⟨#[45]⟩ : ByteArray), (⟨#[10]⟩ : ByteArray)] : List ByteArray) v3 1 (by
        intro x hx
        simp only [List.mem_cons, List.not_mem_nil, or_false] at hx
        rcases hx with rfl | rfl | rfl | rfl | rfl | rfl | rfl | rfl <;> exact Nat.le_refl _)
      have hl : (([(⟨#[48]⟩ : ByteArray), (⟨#[35]⟩ : ByteArray), (⟨#[46]⟩ : ByteArray), (⟨#[47]⟩ : ByteArray), (⟨#[32]⟩ : ByteArray), (⟨#[97]⟩ : ByteArray), (⟨#[45]⟩ : ByteArray), (⟨#[10]⟩ : ByteArray)] : List ByteArray).length : Int) = 8 := rfl
      simp only [if_neg c0, if_pos c1, if_pos p1, if_pos hv, e3, Option.bind_some, if_pos p3, hl, if_pos (show v3 < 8 by omega)]
      rw [if_pos (by omega), if_pos (by rw [ByteArray.size_append]; omega)]
      refine ⟨_, _, _, rfl, ?_⟩
      rw [ByteArray.size_append, ByteArray.size_append]
      omega
    · by_cases c2 : v2 = 2
      · by_cases c3 : v1 < (t.size : Int)
        · have z3 : (t.extract (v1 + 1).toNat t.size).size = t.size - (v1 + 1).toNat := by rw [ByteArray.size_extract]; omega
          simp only [if_neg c0, if_neg c1, if_pos c2, if_pos c3, if_pos p1, if_pos hv, w64 (n := v1 + 1) (by omega), if_pos (show 0 ≤ v1 + 1 by omega), if_pos (show v1 + 1 ≤ (t.size : Int) by omega)]
          rw [if_pos (by omega)]
          refine ⟨_, _, _, rfl, ?_⟩
          rw [ByteArray.size_append]
          omega
        · simp only [if_neg c0, if_neg c1, if_pos c2, if_neg c3]
          exact ⟨_, _, _, rfl, by omega⟩
      · simp only [if_neg c0, if_neg c1, if_neg c2]
        exact ⟨_, _, _, rfl, by omega⟩
theorem drawRead_ev (c : List Int) (hc : c.length ≤ 4096) (hb : ∀ x ∈ c, 0 ≤ x ∧ x ≤ 255) : ∃ t, Ev (fun k => spec_DrawReadArea.f k c) t ∧ t.size ≤ 1000 := by
  obtain ⟨s, e, h⟩ := from_ev c hc hb
  obtain ⟨k, x, y, w, d, a1, s1, e1, h1, hP⟩ := good15_area h
  obtain ⟨v, a2, s2, e2, h2, _, _⟩ := next_some h1 3 (by omega)
  have hz := area_size (K := k) (X := x) (Y := y) (W := w) (D := d)
  unfold spec_DrawReadArea.f
  by_cases c0 : v = 0
  · obtain ⟨u, a3, s3, e3, hu⟩ := damage_some h2 (areaM k x y w d) (by omega)
    refine ⟨u, Ev.bind e ?_, hu⟩
    simp only [e1, Option.bind_some]
    refine Ev.bind (spec_text hP) ?_
    simp only [e2, Option.bind_some, if_pos c0, e3]
    exact Ev.now _
  · refine ⟨areaM k x y w d, Ev.bind e ?_, by omega⟩
    simp only [e1, Option.bind_some]
    refine Ev.bind (spec_text hP) ?_
    simp only [e2, Option.bind_some, if_neg c0]
    exact Ev.now _
theorem drawText_ev (c : List Int) (hc : c.length ≤ 4096) (hb : ∀ x ∈ c, 0 ≤ x ∧ x ≤ 255) (hd : ∀ a s : Int, Src c a s → ∃ k x y w d a' s', spec_l15Draw.f c a s = some (k, x, y, w, d, a', s') ∧ Src c a' s') : ∃ k x y w d, Ev (fun n => spec_DrawAreaText.f n c) (k, x, y, w, d) := by
  obtain ⟨s, e, h⟩ := from_ev c hc hb
  obtain ⟨k, x, y, w, d, a1, s1, e1, h1⟩ := hd _ _ h
  refine ⟨k, x, y, w, d, ?_⟩
  unfold spec_DrawAreaText.f
  refine Ev.bind e ?_
  simp only [e1, Option.bind_some]
  exact Ev.now _
theorem good15_one {c : List Int} {a s : Int} (h : Src c a s) : ∃ k x y w d a' s', spec_l15Good.f c a s = some (k, x, y, w, d, a', s') ∧ Src c a' s' := by
  obtain ⟨v1, a1, s1, e1, h1, _, _⟩ := next_some h 4 (by omega)
  obtain ⟨v2, a2, s2, e2, h2, _, _⟩ := next_some h1 2000 (by omega)
  obtain ⟨v3, a3, s3, e3, h3, _, _⟩ := next_some h2 2000 (by omega)
  obtain ⟨v4, a4, s4, e4, h4, _, _⟩ := next_some h3 400 (by omega)
  obtain ⟨v5, a5, s5, e5, h5, _, _⟩ := next_some h4 400 (by omega)
  refine ⟨v1, v2, v3, wrap64 (1 + v4), wrap64 (1 + v5), a5, s5, ?_, h5⟩
  unfold spec_l15Good.f
  simp only [e1, e2, e3, e4, e5, Option.bind_some]
theorem draw15_one {c : List Int} {a s : Int} (h : Src c a s) : ∃ k x y w d a' s', spec_l15Draw.f c a s = some (k, x, y, w, d, a', s') ∧ Src c a' s' := by
  obtain ⟨k, x, y, w, d, a1, s1, e1, h1⟩ := good15_one h
  obtain ⟨v, a2, s2, e2, h2, _, _⟩ := next_some h1 60 (by omega)
  unfold spec_l15Draw.f
  simp only [e1, e2, Option.bind_some]
  by_cases c0 : v = 0
  · obtain ⟨p, a3, s3, e3, h3, _⟩ := pick_some h2 [(-1), 4] (by simp) (by simp)
    simp only [if_pos c0, e3, Option.bind_some]
    exact ⟨_, _, _, _, _, a3, s3, rfl, h3⟩
  · by_cases c1 : v = 1
    · obtain ⟨p, a3, s3, e3, h3, _⟩ := pick_some h2 [0, wrap64 (100000 - x), wrap64 ((wrap64 (100000 - x)) + 1)] (by simp) (by simp)
      simp only [if_neg c0, if_pos c1, e3, Option.bind_some]
      exact ⟨_, _, _, _, _, a3, s3, rfl, h3⟩
    · by_cases c2 : v = 2
      · obtain ⟨p, a3, s3, e3, h3, _⟩ := pick_some h2 [(-1), 0, 100000] (by simp) (by simp)
        simp only [if_neg c0, if_neg c1, if_pos c2, e3, Option.bind_some]
        exact ⟨_, _, _, _, _, a3, s3, rfl, h3⟩
      · simp only [if_neg c0, if_neg c1, if_neg c2]
        exact ⟨_, _, _, _, _, a2, s2, rfl, h2⟩
/-- What is asked of an area's own text: it is read back. -/
theorem texts_tail (K X Y W D : Int) (t : ByteArray) (c : Int) (h : (PArea K X Y W D ∧ t = areaM K X Y W D ∧ c = 0) ∨ c = 1) :
    Ev (fun k => (if c = 0 then ((impl_ReadArea.f k t).bind fun b => (if b.2.2.2.2.2 = 0 then (some (b.1 == K && (b.2.1 == X && (b.2.2.1 == Y && (b.2.2.2.1 == W && (b.2.2.2.2.1 == D)))))) else (some false))) else (some true) : Option Bool)) true := by
  rcases h with ⟨hP, rfl, rfl⟩ | rfl
  · simp only [if_true]
    refine Ev.bind (impl_read_ok hP) ?_
    simp only [if_true, beq_self_eq_true, Bool.and_self]
    exact Ev.now _
  · simp only [if_neg (show ¬ (1 : Int) = 0 by omega)]
    exact Ev.now _
theorem texts_j0 (K X Y W D : Int) (t s : ByteArray) (c : Int) (r : Int × Int × Int × Int × Int × Int) (h : (PArea K X Y W D ∧ t = areaM K X Y W D ∧ c = 0) ∨ c = 1) (hr : RA s r) :
    Ev (fun k => laws_FnAreaTexts.j0 k t c s r.2.2.2.2.2 false K X Y W D r.1 r.2.1 r.2.2.1 r.2.2.2.1 r.2.2.2.2.1) true := by
  refine Ev_shift ?_
  rcases hr with rfl | ⟨K', X', Y', W', D', hP, rfl, rfl⟩
  · simp only [laws_FnAreaTexts.j0, Bool.false_eq_true, if_false, if_neg (show ¬ (6 : Int) = 0 by omega)]
    exact texts_tail K X Y W D t c h
  · simp only [laws_FnAreaTexts.j0, Bool.false_eq_true, if_false, if_true]
    refine Ev.bind (impl_AreaText_pos hP) ?_
    simp only [if_true, bne_self_eq_false]
    refine Ev_shift ?_
    simp only [laws_FnAreaTexts.j1, Bool.false_eq_true, if_false]
    exact texts_tail K X Y W D t c h
theorem FnAreaTexts : laws_FnAreaTexts.Pure := by
  intro l0 h1 h2 h3
  have hb := u8_rng h3
  by_cases hc : l0.length ≤ 4096
  · obtain ⟨K, X, Y, W, D, hx⟩ := drawText_ev l0 hc hb (fun a s h => draw15_one h)
    obtain ⟨s, hs, hz⟩ := drawRead_ev l0 hc hb
    obtain ⟨r, hr1, hr2, hR⟩ := agree_ReadArea s (by omega)
    refine Ev.rounds ?_
    unfold laws_FnAreaTexts.f laws_big.f
    simp only [Option.bind_some, decide_eq_false (show ¬ (l0.length : Int) > 4096 by omega), Bool.false_eq_true, if_false]
    refine Ev.bind hx ?_
    by_cases hP : PArea K X Y W D
    · refine Ev.bind (impl_AreaText_pos hP) (Ev.bind (spec_AreaText_pos hP) (Ev.bind hs (Ev.bind hr2 (Ev.bind hr1 ?_))))
      simp only [if_true, beq_self_eq_true, Bool.and_self, impl_IsArea_eq, Option.bind_some, decide_eq_true hP, bne_self_eq_false]
      exact texts_j0 K X Y W D _ s 0 r (Or.inl ⟨hP, rfl, rfl⟩) hR
    · refine Ev.bind (impl_AreaText_neg hP) (Ev.bind (spec_AreaText_neg hP) (Ev.bind hs (Ev.bind hr2 (Ev.bind hr1 ?_))))
      simp only [if_true, beq_self_eq_true, Bool.and_self, impl_IsArea_eq, Option.bind_some, decide_eq_false hP, show (false != ((1 : Int) == 0)) = false from rfl]
      exact texts_j0 K X Y W D _ s 1 r (Or.inr rfl) hR
  · refine ⟨0, ?_⟩
    unfold laws_FnAreaTexts.f laws_big.f
    simp only [Option.bind_some, decide_eq_true (show (l0.length : Int) > 4096 by omega), if_true]
end Go.Proofs.Ytedcdhnbceaaeaa.Pure
