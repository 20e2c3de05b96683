/- The plain law of FnExactAreaText: what the printed functions compute, without Go and memory. No condition but the bounds that stand in it. -/
import Derived.Test.YtfplnebeojdgcaaPFnExactAreaTextx0
import Derived.Test.YtfplnebeojdgcaaQFnExactAreaTexta
import Derived.Test.YtfplnebeojdgcaaQFnExactAreaTextb
import Derived.Test.YtfplnebeojdgcaaQFnExactAreaTextc
import Derived.Test.YtfplnebeojdgcaaOpen
namespace Go.Proofs.Ytfplnebeojdgcaa.Pure
open Go.RowKit Go.Proofs.Ytfplnebeojdgcaa.PFnExactAreaText Go.Proofs.YtfplnebeojdgcaaW.PrintWords Go.Proofs.YtfplnebeojdgcaaW.PrintLast Go.Proofs.Ytfplnebeojdgcaa.Opening
set_option linter.unusedVariables false
set_option linter.unusedSimpArgs false
theorem w64 {n : Int} (h : -9223372036854775808 ≤ n ∧ n ≤ 9223372036854775807) : wrap64 n = n := by
  unfold wrap64
  omega
theorem dec_and {p q : Prop} [Decidable p] [Decidable q] : (if decide p = true then some (decide q) else some false) = some (decide (p ∧ q)) := by
  by_cases h : p <;> simp [h]
theorem l01In_eq (a b c : Int) : spec_l01In.f a b c = some (decide (b ≤ a ∧ a ≤ c)) := by
  unfold spec_l01In.f
  by_cases h : b ≤ a <;> simp [h]
theorem within_eq (a b c : Int) : impl_within.f a b c = some (decide (b ≤ a ∧ a ≤ c)) := by
  unfold impl_within.f
  by_cases h : b ≤ a <;> simp [h]
theorem Ev_shift {α : Type} {g : Nat → Option α} {r : α} (h : Ev (fun k => g (k + 1)) r) : Ev g r := Ev.step (fun _ => rfl) h
theorem Ev_both {α β : Type} {g : Nat → Option α} {f : Nat → Option β} {r : α} {q : β} (h1 : Ev g r) (h2 : Ev f q) : ∃ K, ∀ k, K ≤ k → g k = some r ∧ f k = some q := by
  obtain ⟨K, h1⟩ := h1
  obtain ⟨K', h2⟩ := h2
  exact ⟨max K K', fun k hk => ⟨h1 k (by omega), h2 k (by omega)⟩⟩
theorem Ev_eq {α : Type} {g : Nat → Option α} {r q : α} (h : Ev g r) (e : r = q) : Ev g q := e ▸ h
theorem Ev_some {α : Type} {r q : α} (e : r = q) : Ev (fun _ => some r) q := e ▸ Ev.now r
/-- A digit's text. -/
def dig (n : Int) : ByteArray := strOfNums [48 + n]
theorem dig_size (n : Int) : (dig n).size = 1 := rfl
/-- A number of at most d digits, in decimal. -/
def decF : Nat → Int → ByteArray
  | 0, _ => ⟨#[]⟩
  | d + 1, n => if n < 10 then dig n else decF d (n / 10) ++ dig (n % 10)
theorem decF_size : ∀ (d : Nat) (n : Int), (decF d n).size ≤ d
  | 0, _ => Nat.le_refl _
  | d + 1, n => by
    unfold decF
    split
    · rw [dig_size]
      omega
    · rw [ByteArray.size_append, dig_size]
      have := decF_size d (n / 10)
      omega
theorem spec_dec : ∀ (d : Nat) (n : Int), 0 ≤ n → n < 10 ^ d → 1 ≤ d → d ≤ 18 → n ≤ 1000000000000000000 → Ev (fun k => spec_l01Dec.f k n) (decF d n)
  | 0, n, h0, h1, hd, h2, h3 => by omega
  | d + 1, n, h0, h1, hd, h2, h3 => by
    refine Ev_shift ?_
    unfold decF
    by_cases h : n < 10
    · simp only [spec_l01Dec.f, if_pos h, w64 (n := 48 + n) (by omega)]
      refine Ev_some ?_
      rw [Int.emod_eq_of_lt (by omega) (by omega)]
      rfl
    · have h10 : (10 : Int) ^ (d + 1) = 10 ^ d * 10 := Int.pow_succ 10 d
      simp only [spec_l01Dec.f, if_neg h, Int.tdiv_eq_ediv_of_nonneg h0, Int.tmod_eq_emod_of_nonneg h0, w64 (n := n / 10) (by omega), w64 (n := 48 + n % 10) (by omega)]
      have hd1 : 1 ≤ d := by
        cases d with
        | zero => simp at h1; omega
        | succ d => omega
      refine Ev.bind (spec_dec d (n / 10) (by omega) (by omega) hd1 (by omega) (by omega)) ?_
      have hs := decF_size d (n / 10)
      have e : (48 + n % 10) % 256 = 48 + n % 10 := Int.emod_eq_of_lt (by omega) (by omega)
      simp only [e, Option.bind_some]
      have e2 : (strOfNums [48 + n % 10]).size = 1 := rfl
      simp only [if_pos (show (decF d (n / 10)).size + (strOfNums [48 + n % 10]).size ≤ 9223372036854775807 by omega)]
      exact Ev.now _
theorem impl_dec_l0 : ∀ (d : Nat) (n : Int) (acc : ByteArray), 0 ≤ n → n < 10 ^ d → 1 ≤ d → d ≤ 18 → n ≤ 1000000000000000000 → acc.size + d ≤ 1000 → Ev (fun k => impl_decimal.l0 k n acc) (decF d n ++ acc)
  | 0, n, acc, h0, h1, hd, h2, h3, h4 => by omega
  | d + 1, n, acc, h0, h1, hd, h2, h3, h4 => by
    refine Ev_shift ?_
    have h10 : (10 : Int) ^ (d + 1) = 10 ^ d * 10 := Int.pow_succ 10 d
    have e : (48 + n % 10) % 256 = 48 + n % 10 := Int.emod_eq_of_lt (by omega) (by omega)
    have e2 : (strOfNums [48 + n % 10]).size = 1 := rfl
    simp only [impl_decimal.l0, Int.tdiv_eq_ediv_of_nonneg h0, Int.tmod_eq_emod_of_nonneg h0, w64 (n := n / 10) (by omega), w64 (n := 48 + n % 10) (by omega), e, Option.bind_some, if_pos (show (strOfNums [48 + n % 10]).size + acc.size ≤ 9223372036854775807 by omega)]
    unfold decF
    by_cases h : n < 10
    · simp only [if_pos (show n / 10 = 0 by omega), if_pos h]
      refine Ev_some ?_
      rw [show n % 10 = n by omega]
      rfl
    · simp only [if_neg (show ¬ n / 10 = 0 by omega), if_neg h]
      have hd1 : 1 ≤ d := by
        cases d with
        | zero => simp at h1; omega
        | succ d => omega
      have := impl_dec_l0 d (n / 10) (strOfNums [48 + n % 10] ++ acc) (by omega) (by omega) hd1 (by omega) (by omega) (by rw [ByteArray.size_append]; omega)
      refine Ev_eq this ?_
      rw [ByteArray.append_assoc]
      rfl
theorem impl_dec (d : Nat) (n : Int) (h0 : 0 ≤ n) (h1 : n < 10 ^ d) (hd : 1 ≤ d) (h2 : d ≤ 18) (h3 : n ≤ 1000000000000000000) : Ev (fun k => impl_decimal.f k n) (decF d n) := by
  refine Ev_shift ?_
  simp only [impl_decimal.f, if_neg (show ¬ n < 0 by omega)]
  refine Ev_eq (impl_dec_l0 d n ⟨#[]⟩ h0 h1 hd h2 h3 (by show 0 + d ≤ 1000; omega)) ?_
  exact ByteArray.append_empty
def PPlace (x y : Int) : Prop := 0 ≤ x ∧ x ≤ 100000 ∧ 0 ≤ y ∧ y ≤ 100000
instance (x y : Int) : Decidable (PPlace x y) := by unfold PPlace; infer_instance
def PArea (k x y w d : Int) : Prop := 0 ≤ k ∧ k ≤ 3 ∧ 0 ≤ x ∧ x ≤ 100000 ∧ 0 ≤ y ∧ y ≤ 100000 ∧ 1 ≤ w ∧ w ≤ 100000 - x ∧ 1 ≤ d ∧ d ≤ 100000 - y
instance (k x y w d : Int) : Decidable (PArea k x y w d) := by unfold PArea; infer_instance
theorem spec_place_eq (x y : Int) : spec_l15Place.f x y = some (decide (PPlace x y)) := by
  unfold spec_l15Place.f PPlace
  simp only [l01In_eq, Option.bind_some]
  rw [dec_and]
  congr 2
  exact propext ⟨fun h => by omega, fun h => by omega⟩
theorem impl_place_eq (x y : Int) : impl_isPlace.f x y = some (decide (PPlace x y)) := by
  unfold impl_isPlace.f PPlace
  simp only [within_eq, Option.bind_some]
  rw [dec_and]
  congr 2
  exact propext ⟨fun h => by omega, fun h => by omega⟩
theorem impl_isKind_eq (k : Int) : impl_isKind.f k = some (decide (0 ≤ k ∧ k ≤ 3)) := by
  unfold impl_isKind.f
  rw [within_eq]; rfl
theorem spec_IsArea_eq (k x y w d : Int) : spec_IsArea.f k x y w d = some (decide (PArea k x y w d)) := by
  unfold spec_IsArea.f
  simp only [l01In_eq, spec_place_eq, Option.bind_some]
  by_cases h1 : 0 ≤ k ∧ k ≤ 3
  · rw [if_pos (decide_eq_true h1)]
    by_cases h2 : PPlace x y
    · rw [if_pos (decide_eq_true h2)]
      unfold PPlace at h2
      rw [w64 (by omega), w64 (by omega), dec_and]
      congr 2
      unfold PArea
      exact propext ⟨fun h => by omega, fun h => by omega⟩
    · rw [if_neg (by simpa using h2), decide_eq_false (fun h => h2 (by unfold PArea at h; unfold PPlace; omega))]
  · rw [if_neg (by simpa using h1), decide_eq_false (fun h => h1 (by unfold PArea at h; omega))]
theorem impl_IsArea_eq (k x y w d : Int) : impl_IsArea.f k x y w d = some (decide (PArea k x y w d)) := by
  unfold impl_IsArea.f
  simp only [within_eq, impl_isKind_eq, impl_place_eq, Option.bind_some]
  by_cases h1 : 0 ≤ k ∧ k ≤ 3
  · rw [if_pos (decide_eq_true h1)]
    by_cases h2 : PPlace x y
    · rw [if_pos (decide_eq_true h2)]
      unfold PPlace at h2
      rw [w64 (by omega), w64 (by omega), dec_and]
      congr 2
      unfold PArea
      exact propext ⟨fun h => by omega, fun h => by omega⟩
    · rw [if_neg (by simpa using h2), decide_eq_false (fun h => h2 (by unfold PArea at h; unfold PPlace; omega))]
  · rw [if_neg (by simpa using h1), decide_eq_false (fun h => h1 (by unfold PArea at h; omega))]
/-- The word of a kind of areas. -/
def wordM (kind : Int) : ByteArray := if kind = 0 then ⟨#[112, 101, 111, 112, 108, 101]⟩ else if kind = 1 then ⟨#[98, 117, 105, 108, 100, 105, 110, 103]⟩ else if kind = 2 then ⟨#[114, 111, 97, 100]⟩ else ⟨#[119, 97, 116, 101, 114]⟩
theorem wordM_size (kind : Int) : (wordM kind).size ≤ 8 := by
  unfold wordM
  split
  · decide
  · split
    · decide
    · split <;> decide
theorem impl_word_eq (kind : Int) : impl_kindWord.f kind = some (wordM kind) := by
  unfold impl_kindWord.f wordM
  split
  · rfl
  · split
    · rfl
    · split <;> rfl
theorem spec_word_eq (kind : Int) (h : 0 ≤ kind ∧ kind ≤ 3) : spec_l15Word.f kind = some (wordM kind) := by
  unfold spec_l15Word.f
  simp only [Option.bind_some]
  rw [if_pos h.1, if_pos (by simp; omega)]
  obtain rfl | rfl | rfl | rfl : kind = 0 ∨ kind = 1 ∨ kind = 2 ∨ kind = 3 := by omega
  · rfl
  · rfl
  · rfl
  · rfl
/-- The text of an area. -/
def areaM (K X Y W D : Int) : ByteArray := ((((((((wordM K ++ (⟨#[32]⟩ : ByteArray)) ++ decF 6 X) ++ (⟨#[44]⟩ : ByteArray)) ++ decF 6 Y) ++ (⟨#[43]⟩ : ByteArray)) ++ decF 6 W) ++ (⟨#[42]⟩ : ByteArray)) ++ decF 6 D)
theorem spec_text {K X Y W D : Int} (h : PArea K X Y W D) : Ev (fun k => spec_l15Text.f k K X Y W D) (areaM K X Y W D) := by
  unfold PArea at h
  have p6 : (10 : Int) ^ 6 = 1000000 := by decide
  unfold spec_l15Text.f areaM
  have s0 := wordM_size K
  have s1 := decF_size 6 X
  have s2 := decF_size 6 Y
  have s3 := decF_size 6 W
  have s4 := decF_size 6 D
  have c1 : (⟨#[32]⟩ : ByteArray).size = 1 := rfl
  have c2 : (⟨#[44]⟩ : ByteArray).size = 1 := rfl
  have c3 : (⟨#[43]⟩ : ByteArray).size = 1 := rfl
  have c4 : (⟨#[42]⟩ : ByteArray).size = 1 := rfl
  rw [spec_word_eq K (by omega)]
  simp only [Option.bind_some]
  simp only [if_pos (show (wordM K).size + 1 ≤ 9223372036854775807 by omega)]
  refine Ev.bind (spec_dec 6 X (by omega) (by omega) (by omega) (by omega) (by omega)) ?_
  simp only [if_pos (show (wordM K ++ (⟨#[32]⟩ : ByteArray)).size + (decF 6 X).size ≤ 9223372036854775807 by simp only [ByteArray.size_append]; omega)]
  simp only [if_pos (show ((wordM K ++ (⟨#[32]⟩ : ByteArray)) ++ decF 6 X).size + 1 ≤ 9223372036854775807 by simp only [ByteArray.size_append]; omega)]
  refine Ev.bind (spec_dec 6 Y (by omega) (by omega) (by omega) (by omega) (by omega)) ?_
  simp only [if_pos (show (((wordM K ++ (⟨#[32]⟩ : ByteArray)) ++ decF 6 X) ++ (⟨#[44]⟩ : ByteArray)).size + (decF 6 Y).size ≤ 9223372036854775807 by simp only [ByteArray.size_append]; omega)]
  simp only [if_pos (show ((((wordM K ++ (⟨#[32]⟩ : ByteArray)) ++ decF 6 X) ++ (⟨#[44]⟩ : ByteArray)) ++ decF 6 Y).size + 1 ≤ 9223372036854775807 by simp only [ByteArray.size_append]; omega)]
  refine Ev.bind (spec_dec 6 W (by omega) (by omega) (by omega) (by omega) (by omega)) ?_
  simp only [if_pos (show (((((wordM K ++ (⟨#[32]⟩ : ByteArray)) ++ decF 6 X) ++ (⟨#[44]⟩ : ByteArray)) ++ decF 6 Y) ++ (⟨#[43]⟩ : ByteArray)).size + (decF 6 W).size ≤ 9223372036854775807 by simp only [ByteArray.size_append]; omega)]
  simp only [if_pos (show ((((((wordM K ++ (⟨#[32]⟩ : ByteArray)) ++ decF 6 X) ++ (⟨#[44]⟩ : ByteArray)) ++ decF 6 Y) ++ (⟨#[43]⟩ : ByteArray)) ++ decF 6 W).size + 1 ≤ 9223372036854775807 by simp only [ByteArray.size_append]; omega)]
  refine Ev.bind (spec_dec 6 D (by omega) (by omega) (by omega) (by omega) (by omega)) ?_
  simp only [if_pos (show (((((((wordM K ++ (⟨#[32]⟩ : ByteArray)) ++ decF 6 X) ++ (⟨#[44]⟩ : ByteArray)) ++ decF 6 Y) ++ (⟨#[43]⟩ : ByteArray)) ++ decF 6 W) ++ (⟨#[42]⟩ : ByteArray)).size + (decF 6 D).size ≤ 9223372036854775807 by simp only [ByteArray.size_append]; omega)]
  exact Ev.now _
theorem impl_text {K X Y W D : Int} (h : PArea K X Y W D) : Ev (fun k => impl_areaText.f k K X Y W D) (areaM K X Y W D) := by
  unfold PArea at h
  have p6 : (10 : Int) ^ 6 = 1000000 := by decide
  unfold impl_areaText.f areaM
  have s0 := wordM_size K
  have s1 := decF_size 6 X
  have s2 := decF_size 6 Y
  have s3 := decF_size 6 W
  have s4 := decF_size 6 D
  have c1 : (⟨#[32]⟩ : ByteArray).size = 1 := rfl
  have c2 : (⟨#[44]⟩ : ByteArray).size = 1 := rfl
  have c3 : (⟨#[43]⟩ : ByteArray).size = 1 := rfl
  have c4 : (⟨#[42]⟩ : ByteArray).size = 1 := rfl
  rw [impl_word_eq K]
  simp only [Option.bind_some]
  simp only [if_pos (show (wordM K).size + 1 ≤ 9223372036854775807 by omega)]
  refine Ev.bind (impl_dec 6 X (by omega) (by omega) (by omega) (by omega) (by omega)) ?_
  simp only [if_pos (show (wordM K ++ (⟨#[32]⟩ : ByteArray)).size + (decF 6 X).size ≤ 9223372036854775807 by simp only [ByteArray.size_append]; omega)]
  simp only [if_pos (show ((wordM K ++ (⟨#[32]⟩ : ByteArray)) ++ decF 6 X).size + 1 ≤ 9223372036854775807 by simp only [ByteArray.size_append]; omega)]
  refine Ev.bind (impl_dec 6 Y (by omega) (by omega) (by omega) (by omega) (by omega)) ?_
  simp only [if_pos (show (((wordM K ++ (⟨#[32]⟩ : ByteArray)) ++ decF 6 X) ++ (⟨#[44]⟩ : ByteArray)).size + (decF 6 Y).size ≤ 9223372036854775807 by simp only [ByteArray.size_append]; omega)]
  simp only [if_pos (show ((((wordM K ++ (⟨#[32]⟩ : ByteArray)) ++ decF 6 X) ++ (⟨#[44]⟩ : ByteArray)) ++ decF 6 Y).size + 1 ≤ 9223372036854775807 by simp only [ByteArray.size_append]; omega)]
  refine Ev.bind (impl_dec 6 W (by omega) (by omega) (by omega) (by omega) (by omega)) ?_
  simp only [if_pos (show (((((wordM K ++ (⟨#[32]⟩ : ByteArray)) ++ decF 6 X) ++ (⟨#[44]⟩ : ByteArray)) ++ decF 6 Y) ++ (⟨#[43]⟩ : ByteArray)).size + (decF 6 W).size ≤ 9223372036854775807 by simp only [ByteArray.size_append]; omega)]
  simp only [if_pos (show ((((((wordM K ++ (⟨#[32]⟩ : ByteArray)) ++ decF 6 X) ++ (⟨#[44]⟩ : ByteArray)) ++ decF 6 Y) ++ (⟨#[43]⟩ : ByteArray)) ++ decF 6 W).size + 1 ≤ 9223372036854775807 by simp only [ByteArray.size_append]; omega)]
  refine Ev.bind (impl_dec 6 D (by omega) (by omega) (by omega) (by omega) (by omega)) ?_
  simp only [if_pos (show (((((((wordM K ++ (⟨#[32]⟩ : ByteArray)) ++ decF 6 X) ++ (⟨#[44]⟩ : ByteArray)) ++ decF 6 Y) ++ (⟨#[43]⟩ : ByteArray)) ++ decF 6 W) ++ (⟨#[42]⟩ : ByteArray)).size + (decF 6 D).size ≤ 9223372036854775807 by simp only [ByteArray.size_append]; omega)]
  exact Ev.now _
theorem agree_AreaText (K X Y W D : Int) : ∃ q : ByteArray × Int, Ev (fun k => spec_AreaText.f k K X Y W D) q ∧ Ev (fun k => impl_AreaText.f k K X Y W D) q := by
  unfold spec_AreaText.f impl_AreaText.f
  rw [spec_IsArea_eq, impl_IsArea_eq]
  simp only [Option.bind_some]
  by_cases h : PArea K X Y W D
  · simp only [decide_eq_true h, if_true]
    exact ⟨(areaM K X Y W D, 0), Ev.bind (spec_text h) (Ev.now _), Ev.bind (impl_text h) (Ev.now _)⟩
  · simp only [decide_eq_false h, Bool.false_eq_true, if_false]
    exact ⟨_, Ev.now _, Ev.now _⟩
theorem FnExactAreaText (a0_0 a0_1 a0_2 a0_3 a0_4 : Int) (q0 : I64 a0_0 ∧ I64 a0_1 ∧ I64 a0_2 ∧ I64 a0_3 ∧ I64 a0_4) : ∃ k, laws_FnExactAreaText.f k a0_0 a0_1 a0_2 a0_3 a0_4 = some true := by
  obtain ⟨q, h1, h2⟩ := agree_AreaText a0_0 a0_1 a0_2 a0_3 a0_4
  obtain ⟨K, hk⟩ := Ev_both h1 h2
  obtain ⟨e1, e2⟩ := hk K (Nat.le_refl _)
  refine ⟨K, ?_⟩
  unfold laws_FnExactAreaText.f laws_toArea.f
  simp only [Option.bind_some, e1, e2]
  simp
end Go.Proofs.Ytfplnebeojdgcaa.Pure
