/- FactsFnExactOverlappingAreas of the law FnExactOverlappingAreas: taken over, declaration by declaration, as far as the law leans on it (the words and the printed functions are the kit's own print). No condition but what each says. -/
import Derived.Test.YtedcdhnbceaaeaaZFnExactOverlappingAreasav
import Derived.Test.YtedcdhnbceaaeaaZFnExactOverlappingAreasax
import Derived.Test.YtedcdhnbceaaeaaZFnExactOverlappingAreasay
import Derived.Test.YtedcdhnbceaaeaaZFnExactOverlappingAreasaz
import Derived.Test.YtedcdhnbceaaeaaZFnExactOverlappingAreasbc
import Derived.Test.YtedcdhnbceaaeaaZFnExactOverlappingAreasbe
import Derived.Test.YtedcdhnbceaaeaaZFnExactOverlappingAreasbd
namespace Go.Proofs.Ytedcdhnbceaaeaa.FactsFnExactOverlappingAreas
open Go.RowKit Go.Proofs.Ytedcdhnbceaaeaa.PFnExactOverlappingAreas Go.Proofs.YtedcdhnbceaaeaaW.PrintWords Go.Proofs.YtedcdhnbceaaeaaW.PrintLast Go.Proofs.Ytedcdhnbceaaeaa.Opening
open Go.Proofs.Ytedcdhnbceaaeaa.Pure (w64)
set_option linter.unusedVariables false
set_option linter.unusedSimpArgs false
def room (n : Nat) : Nat := if n % 6 = 5 then 0 else if n % 3 = 0 then 1 else n
theorem room_le (n : Nat) : room n ≤ n + 1 := by unfold room; split <;> (try split) <;> omega
theorem room_eq (n : Nat) : laws_roomBehind.f (n : Int) = some ((room n : Nat) : Int) := by
  unfold laws_roomBehind.f room
  rw [Int.tmod_eq_emod_of_nonneg (by omega), Int.tmod_eq_emod_of_nonneg (by omega)]
  by_cases h : n % 6 = 5
  · rw [if_pos (by omega), if_pos h]; rfl
  · rw [if_neg (by omega), if_neg h]
    by_cases h2 : n % 3 = 0
    · rw [if_pos (by omega), if_pos h2]; rfl
    · rw [if_neg (by omega), if_neg h2]
theorem set_mid {α : Type} (p : List α) (b v : α) (s : List α) : (p ++ b :: s).set ((p.length : Int)).toNat v = p ++ v :: s := by
  rw [Int.toNat_natCast, List.set_append_right _ _ (Nat.le_refl _)]
  simp
theorem getD_mid {α : Type} (z : α) (p : List α) (b : α) (s : List α) : (p ++ b :: s).getD ((p.length : Int)).toNat z = b := by
  rw [Int.toNat_natCast, List.getD_eq_getElem?_getD, List.getElem?_append_right (Nat.le_refl _)]
  simp
theorem full_toAreaS_l1 (l : List S141) : ∀ (j k : Nat) (pre : List S83), l.length ≤ pre.length → pre.length + j ≤ 4000000 → j < k → full_toAreaS.l1 k l (pre ++ List.replicate j z83) (pre.length : Int) = some (pre ++ List.replicate j (⟨(-7000000000000000101), (-7000000000000000101), (-7000000000000000101), (-7000000000000000101), (-7000000000000000101)⟩ : S83))
  | 0, k, pre, h1, h2, hk => by
    obtain ⟨k, rfl⟩ : ∃ m, k = m + 1 := ⟨k - 1, by omega⟩
    simp only [full_toAreaS.l1, List.replicate_zero, List.append_nil]
    rw [if_neg (by omega), if_pos (by omega), if_pos (by omega)]
  | j + 1, k, pre, h1, h2, hk => by
    obtain ⟨k, rfl⟩ : ∃ m, k = m + 1 := ⟨k - 1, by omega⟩
    have ih := full_toAreaS_l1 l j k (pre ++ [(⟨(-7000000000000000101), (-7000000000000000101), (-7000000000000000101), (-7000000000000000101), (-7000000000000000101)⟩ : S83)]) (by simp; omega) (by simp; omega) (by omega)
    simp only [full_toAreaS.l1]
    rw [if_pos (by simp; omega)]
    simp only [laws_fillerArea.f, Option.bind_some]
    rw [if_pos (by omega), w64 (by omega), List.replicate_succ, set_mid]
    have e1 : pre ++ (⟨(-7000000000000000101), (-7000000000000000101), (-7000000000000000101), (-7000000000000000101), (-7000000000000000101)⟩ : S83) :: List.replicate j z83 = (pre ++ [(⟨(-7000000000000000101), (-7000000000000000101), (-7000000000000000101), (-7000000000000000101), (-7000000000000000101)⟩ : S83)]) ++ List.replicate j z83 := by simp
    have e2 : (pre.length : Int) + 1 = ((pre ++ [(⟨(-7000000000000000101), (-7000000000000000101), (-7000000000000000101), (-7000000000000000101), (-7000000000000000101)⟩ : S83)]).length : Int) := by simp
    rw [e1, e2, ih]
    simp [List.replicate_succ]
theorem full_toAreaS_l0 (l : List S141) (R : Nat) (hl : l.length ≤ 1000000) (hR : R ≤ 1000001) : ∀ (s p : List S141) (k : Nat), l = p ++ s → s.length + R + 2 ≤ k → full_toAreaS.l0 k l ((p.map fun x => (⟨x.f0, x.f1, x.f2, x.f3, x.f4⟩ : S83)) ++ List.replicate (s.length + R) z83) (p.length : Int) = some ((l.map fun x => (⟨x.f0, x.f1, x.f2, x.f3, x.f4⟩ : S83)) ++ List.replicate R (⟨(-7000000000000000101), (-7000000000000000101), (-7000000000000000101), (-7000000000000000101), (-7000000000000000101)⟩ : S83))
  | [], p, k, h, hk => by
    obtain ⟨k, rfl⟩ : ∃ m, k = m + 1 := ⟨k - 1, by omega⟩
    have hp : l = p := by simpa using h
    subst hp
    simp only [full_toAreaS.l0]
    rw [if_neg (by omega)]
    have := full_toAreaS_l1 l R k (l.map fun x => (⟨x.f0, x.f1, x.f2, x.f3, x.f4⟩ : S83)) (by simp) (by (try simp only [List.length_map]); omega) (by simp at hk; omega)
    simpa using this
  | a :: s, p, k, h, hk => by
    obtain ⟨k, rfl⟩ : ∃ m, k = m + 1 := ⟨k - 1, by omega⟩
    have hlen : l.length = p.length + (s.length + 1) := by rw [h]; simp
    have hget : rd_T141 l (p.length : Int) = a := by rw [h]; exact getD_mid _ p a s
    have ih := full_toAreaS_l0 l R hl hR s (p ++ [a]) k (by rw [h]; simp) (by simp at hk ⊢; omega)
    simp only [full_toAreaS.l0]
    rw [if_pos (by omega), if_pos (by omega), hget]
    simp only [laws_toArea.f, Option.bind_some]
    rw [if_pos (by simp; omega), w64 (by omega)]
    have e0 : (a :: s).length + R = (s.length + R) + 1 := by simp; omega
    have e1 : ((p.map fun x => (⟨x.f0, x.f1, x.f2, x.f3, x.f4⟩ : S83)) ++ List.replicate ((a :: s).length + R) z83).set ((p.length : Int)).toNat (⟨a.f0, a.f1, a.f2, a.f3, a.f4⟩ : S83) = ((p ++ [a]).map fun x => (⟨x.f0, x.f1, x.f2, x.f3, x.f4⟩ : S83)) ++ List.replicate (s.length + R) z83 := by
      rw [e0, List.replicate_succ]
      have := set_mid (p.map fun x => (⟨x.f0, x.f1, x.f2, x.f3, x.f4⟩ : S83)) z83 (⟨a.f0, a.f1, a.f2, a.f3, a.f4⟩ : S83) (List.replicate (s.length + R) z83)
      (try simp only [List.length_map] at this)
      rw [this]
      simp
    have e2 : (p.length : Int) + 1 = ((p ++ [a]).length : Int) := by simp
    rw [e1, e2, ih]
theorem full_toAreaS_eq (l : List S141) (b : Bool) (hb : b = false ∨ l ≠ []) (hl : l.length ≤ 1000000) (k : Nat) (hk : 2 * l.length + 10 ≤ k) : full_toAreaS.f k l b = some ((l.map fun x => (⟨x.f0, x.f1, x.f2, x.f3, x.f4⟩ : S83)) ++ List.replicate (room l.length) (⟨(-7000000000000000101), (-7000000000000000101), (-7000000000000000101), (-7000000000000000101), (-7000000000000000101)⟩ : S83)) := by
  obtain ⟨k, rfl⟩ : ∃ m, k = m + 1 := ⟨k - 1, by omega⟩
  have hr := room_le l.length
  have e : full_toAreaS.f (k + 1) l b = full_toAreaS.j0 (k + 1) l false := by
    unfold full_toAreaS.f
    cases b with
    | false => rfl
    | true =>
      have hn : l ≠ [] := by simpa using hb
      have : ((l.length : Int) == 0) = false := by
        cases l with
        | nil => exact absurd rfl hn
        | cons a s => simp; omega
      rw [if_pos rfl, this]
  rw [e]
  simp only [full_toAreaS.j0]
  rw [if_neg (by decide), room_eq, Option.bind_some, w64 (by omega), if_pos (by omega), if_pos (by omega)]
  have := full_toAreaS_l0 l (room l.length) hl (by omega) l [] k (by simp) (by omega)
  have e3 : ((l.length : Int) + (room l.length : Int)).toNat = l.length + room l.length := by omega
  rw [e3]
  simpa using this
theorem laws_toAreaS_l1 (l : List S141) : ∀ (j k : Nat) (pre : List S83), l.length ≤ pre.length → pre.length + j ≤ 4000000 → j < k → laws_toAreaS.l1 k l (pre ++ List.replicate j z83) (pre.length : Int) = some ((pre ++ List.replicate j (⟨(-7000000000000000101), (-7000000000000000101), (-7000000000000000101), (-7000000000000000101), (-7000000000000000101)⟩ : S83)).take l.length)
  | 0, k, pre, h1, h2, hk => by
    obtain ⟨k, rfl⟩ : ∃ m, k = m + 1 := ⟨k - 1, by omega⟩
    simp only [laws_toAreaS.l1, List.replicate_zero, List.append_nil]
    rw [if_neg (by omega), if_pos (by omega), if_pos (by omega)]
    rw [Int.toNat_natCast]
  | j + 1, k, pre, h1, h2, hk => by
    obtain ⟨k, rfl⟩ : ∃ m, k = m + 1 := ⟨k - 1, by omega⟩
    have ih := laws_toAreaS_l1 l j k (pre ++ [(⟨(-7000000000000000101), (-7000000000000000101), (-7000000000000000101), (-7000000000000000101), (-7000000000000000101)⟩ : S83)]) (by simp; omega) (by simp; omega) (by omega)
    simp only [laws_toAreaS.l1]
    rw [if_pos (by simp; omega)]
    simp only [laws_fillerArea.f, Option.bind_some]
    rw [if_pos (by omega), w64 (by omega), List.replicate_succ, set_mid]
    have e1 : pre ++ (⟨(-7000000000000000101), (-7000000000000000101), (-7000000000000000101), (-7000000000000000101), (-7000000000000000101)⟩ : S83) :: List.replicate j z83 = (pre ++ [(⟨(-7000000000000000101), (-7000000000000000101), (-7000000000000000101), (-7000000000000000101), (-7000000000000000101)⟩ : S83)]) ++ List.replicate j z83 := by simp
    have e2 : (pre.length : Int) + 1 = ((pre ++ [(⟨(-7000000000000000101), (-7000000000000000101), (-7000000000000000101), (-7000000000000000101), (-7000000000000000101)⟩ : S83)]).length : Int) := by simp
    rw [e1, e2, ih]
    simp [List.replicate_succ]
theorem laws_toAreaS_l0 (l : List S141) (R : Nat) (hl : l.length ≤ 1000000) (hR : R ≤ 1000001) : ∀ (s p : List S141) (k : Nat), l = p ++ s → s.length + R + 2 ≤ k → laws_toAreaS.l0 k l ((p.map fun x => (⟨x.f0, x.f1, x.f2, x.f3, x.f4⟩ : S83)) ++ List.replicate (s.length + R) z83) (p.length : Int) = some (((l.map fun x => (⟨x.f0, x.f1, x.f2, x.f3, x.f4⟩ : S83)) ++ List.replicate R (⟨(-7000000000000000101), (-7000000000000000101), (-7000000000000000101), (-7000000000000000101), (-7000000000000000101)⟩ : S83)).take l.length)
  | [], p, k, h, hk => by
    obtain ⟨k, rfl⟩ : ∃ m, k = m + 1 := ⟨k - 1, by omega⟩
    have hp : l = p := by simpa using h
    subst hp
    simp only [laws_toAreaS.l0]
    rw [if_neg (by omega)]
    have := laws_toAreaS_l1 l R k (l.map fun x => (⟨x.f0, x.f1, x.f2, x.f3, x.f4⟩ : S83)) (by simp) (by (try simp only [List.length_map]); omega) (by simp at hk; omega)
    simpa using this
  | a :: s, p, k, h, hk => by
    obtain ⟨k, rfl⟩ : ∃ m, k = m + 1 := ⟨k - 1, by omega⟩
    have hlen : l.length = p.length + (s.length + 1) := by rw [h]; simp
    have hget : rd_T141 l (p.length : Int) = a := by rw [h]; exact getD_mid _ p a s
    have ih := laws_toAreaS_l0 l R hl hR s (p ++ [a]) k (by rw [h]; simp) (by simp at hk ⊢; omega)
    simp only [laws_toAreaS.l0]
    rw [if_pos (by omega), if_pos (by omega), hget]
    simp only [laws_toArea.f, Option.bind_some]
    rw [if_pos (by simp; omega), w64 (by omega)]
    have e0 : (a :: s).length + R = (s.length + R) + 1 := by simp; omega
    have e1 : ((p.map fun x => (⟨x.f0, x.f1, x.f2, x.f3, x.f4⟩ : S83)) ++ List.replicate ((a :: s).length + R) z83).set ((p.length : Int)).toNat (⟨a.f0, a.f1, a.f2, a.f3, a.f4⟩ : S83) = ((p ++ [a]).map fun x => (⟨x.f0, x.f1, x.f2, x.f3, x.f4⟩ : S83)) ++ List.replicate (s.length + R) z83 := by
      rw [e0, List.replicate_succ]
      have := set_mid (p.map fun x => (⟨x.f0, x.f1, x.f2, x.f3, x.f4⟩ : S83)) z83 (⟨a.f0, a.f1, a.f2, a.f3, a.f4⟩ : S83) (List.replicate (s.length + R) z83)
      (try simp only [List.length_map] at this)
      rw [this]
      simp
    have e2 : (p.length : Int) + 1 = ((p ++ [a]).length : Int) := by simp
    rw [e1, e2, ih]
theorem laws_toAreaS_eq (l : List S141) (b : Bool) (hb : b = false ∨ l ≠ []) (hl : l.length ≤ 1000000) (k : Nat) (hk : 2 * l.length + 10 ≤ k) : laws_toAreaS.f k l b = some (((l.map fun x => (⟨x.f0, x.f1, x.f2, x.f3, x.f4⟩ : S83)) ++ List.replicate (room l.length) (⟨(-7000000000000000101), (-7000000000000000101), (-7000000000000000101), (-7000000000000000101), (-7000000000000000101)⟩ : S83)).take l.length) := by
  obtain ⟨k, rfl⟩ : ∃ m, k = m + 1 := ⟨k - 1, by omega⟩
  have hr := room_le l.length
  have e : laws_toAreaS.f (k + 1) l b = laws_toAreaS.j0 (k + 1) l false := by
    unfold laws_toAreaS.f
    cases b with
    | false => rfl
    | true =>
      have hn : l ≠ [] := by simpa using hb
      have : ((l.length : Int) == 0) = false := by
        cases l with
        | nil => exact absurd rfl hn
        | cons a s => simp; omega
      rw [if_pos rfl, this]
  rw [e]
  simp only [laws_toAreaS.j0]
  rw [if_neg (by decide), room_eq, Option.bind_some, w64 (by omega), if_pos (by omega), if_pos (by omega)]
  have := laws_toAreaS_l0 l (room l.length) hl (by omega) l [] k (by simp) (by omega)
  have e3 : ((l.length : Int) + (room l.length : Int)).toNat = l.length + room l.length := by omega
  rw [e3]
  simpa using this
theorem laws_toAreaS_bare (l : List S141) (hl : l.length ≤ 1000000) (k : Nat) (hk : 2 * l.length + 10 ≤ k) : laws_toAreaS.f k l true = some (l.map fun x => (⟨x.f0, x.f1, x.f2, x.f3, x.f4⟩ : S83)) := by
  cases l with
  | nil =>
    obtain ⟨k, rfl⟩ : ∃ m, k = m + 1 := ⟨k - 1, by omega⟩
    simp [laws_toAreaS.f, laws_toAreaS.j0]
  | cons a s =>
    rw [laws_toAreaS_eq (a :: s) true (.inr (by simp)) hl k hk]
    congr 1
    rw [List.take_append_of_le_length (by simp), List.take_of_length_le (by simp)]
theorem laws_eqAreaS_l0 (l : List S83) (hl : l.length ≤ 1000000000) : ∀ (d k : Nat) (i : Int), 0 ≤ i → i + d = l.length → d < k → laws_eqAreaS.l0 k l l i = some true
  | 0, k, i, h0, h1, hk => by
    obtain ⟨k, rfl⟩ : ∃ m, k = m + 1 := ⟨k - 1, by omega⟩
    simp only [laws_eqAreaS.l0]
    rw [if_neg (by omega)]
  | d + 1, k, i, h0, h1, hk => by
    obtain ⟨k, rfl⟩ : ∃ m, k = m + 1 := ⟨k - 1, by omega⟩
    simp only [laws_eqAreaS.l0]
    rw [if_pos (by omega), if_pos (by omega), if_pos (by omega)]
    have e0 : laws_eqArea.f (rd_T83 l i).f0 (rd_T83 l i).f1 (rd_T83 l i).f2 (rd_T83 l i).f3 (rd_T83 l i).f4 (rd_T83 l i).f0 (rd_T83 l i).f1 (rd_T83 l i).f2 (rd_T83 l i).f3 (rd_T83 l i).f4 = some true := by unfold laws_eqArea.f; simp
    rw [e0, Option.bind_some]
    first | rw [if_pos trivial] | rw [if_pos rfl]
    rw [w64 (by omega)]
    exact laws_eqAreaS_l0 l hl d k (i + 1) (by omega) (by omega) (by omega)
theorem laws_eqAreaS_same (l : List S83) (hl : l.length ≤ 1000000000) (k : Nat) (hk : l.length < k) : laws_eqAreaS.f k l l = some true := by
  unfold laws_eqAreaS.f
  rw [if_pos rfl]
  exact laws_eqAreaS_l0 l hl l.length k 0 (by omega) (by omega) hk
theorem laws_eqInt64S_l0 (l : List Int) (hl : l.length ≤ 1000000000) : ∀ (d k : Nat) (i : Int), 0 ≤ i → i + d = l.length → d < k → laws_eqInt64S.l0 k l l i = some true
  | 0, k, i, h0, h1, hk => by
    obtain ⟨k, rfl⟩ : ∃ m, k = m + 1 := ⟨k - 1, by omega⟩
    simp only [laws_eqInt64S.l0]
    rw [if_neg (by omega)]
  | d + 1, k, i, h0, h1, hk => by
    obtain ⟨k, rfl⟩ : ∃ m, k = m + 1 := ⟨k - 1, by omega⟩
    simp only [laws_eqInt64S.l0]
    rw [if_pos (by omega), if_pos (by omega), if_pos (by omega)]
    first | rw [if_pos trivial] | rw [if_pos rfl]
    rw [w64 (by omega)]
    exact laws_eqInt64S_l0 l hl d k (i + 1) (by omega) (by omega) (by omega)
theorem laws_eqInt64S_same (l : List Int) (hl : l.length ≤ 1000000000) (k : Nat) (hk : l.length < k) : laws_eqInt64S.f k l l = some true := by
  unfold laws_eqInt64S.f
  rw [if_pos rfl]
  exact laws_eqInt64S_l0 l hl l.length k 0 (by omega) (by omega) hk
/-- The numbers from a on, field by field. -/
def marksArea : Nat → Int → List S83
  | 0, _ => []
  | n + 1, a => (⟨a, a + 1, a + 2, a + 3, a + 4⟩ : S83) :: marksArea n (a + 5)
theorem rd_midArea (p : List S83) (b : S83) (s : List S83) : rd_T83 (p ++ b :: s) (p.length : Int) = b := getD_mid _ p b s
theorem laws_markAreaS_l0 : ∀ (s p : List S83) (k : Nat) (a : Int), 0 ≤ a → a + 5 * s.length ≤ 1000000000 → p.length + s.length ≤ 1000000000 → s.length < k → laws_markAreaS.l0 k (p ++ s) a (p.length : Int) = some (a + 5 * s.length, p ++ marksArea s.length a)
  | [], p, k, a, h0, h1, h2, hk => by
    obtain ⟨k, rfl⟩ : ∃ m, k = m + 1 := ⟨k - 1, by simp at hk; omega⟩
    simp only [laws_markAreaS.l0]
    rw [if_neg (by simp)]
    simp [marksArea]
  | b :: s, p, k, a, h0, h1, h2, hk => by
    obtain ⟨k, rfl⟩ : ∃ m, k = m + 1 := ⟨k - 1, by simp at hk; omega⟩
    simp only [List.length_cons] at h1 h2 hk
    have ih := laws_markAreaS_l0 s (p ++ [(⟨a, a + 1, a + 2, a + 3, a + 4⟩ : S83)]) k (a + 5) (by omega) (by omega) (by simp; omega) (by omega)
    simp only [laws_markAreaS.l0]
    rw [if_pos (by simp; omega), if_pos (by omega)]
    simp only [Option.bind_some, set_mid, rd_midArea]
    have w1 : wrap64 (a + 1) = a + 1 := by rw [w64 (by omega)] <;> omega
    have w2 : wrap64 (a + 1 + 1) = a + 2 := by rw [w64 (by omega)] <;> omega
    have w3 : wrap64 (a + 2 + 1) = a + 3 := by rw [w64 (by omega)] <;> omega
    have w4 : wrap64 (a + 3 + 1) = a + 4 := by rw [w64 (by omega)] <;> omega
    have w5 : wrap64 (a + 4 + 1) = a + 5 := by rw [w64 (by omega)] <;> omega
    simp only [w1, w2, w3, w4, w5]
    have e1 : p ++ (⟨a, a + 1, a + 2, a + 3, a + 4⟩ : S83) :: s = (p ++ [(⟨a, a + 1, a + 2, a + 3, a + 4⟩ : S83)]) ++ s := by simp
    have e2 : (p.length : Int) + 1 = ((p ++ [(⟨a, a + 1, a + 2, a + 3, a + 4⟩ : S83)]).length : Int) := by simp
    rw [w64 (n := (p.length : Int) + 1) (by omega), e1, e2, ih]
    have e3 : a + 5 + 5 * (s.length : Int) = a + 5 * ((s.length + 1 : Nat) : Int) := by omega
    rw [e3]
    simp [marksArea]
theorem laws_markAreaS_eq (l : List S83) (a : Int) (h0 : 0 ≤ a) (h1 : a + 5 * l.length ≤ 1000000000) (h2 : l.length ≤ 1000000000) (k : Nat) (hk : l.length < k) : laws_markAreaS.f k l a = some (a + 5 * l.length, marksArea l.length a) := by
  unfold laws_markAreaS.f
  have := laws_markAreaS_l0 l [] k a h0 h1 (by simpa using h2) hk
  simpa using this
/-- The numbers from a on, field by field. -/
def marksInt64 : Nat → Int → List Int
  | 0, _ => []
  | n + 1, a => a :: marksInt64 n (a + 1)
theorem rd_midInt64 (p : List Int) (b : Int) (s : List Int) : rd (p ++ b :: s) (p.length : Int) = b := getD_mid _ p b s
theorem laws_markInt64S_l0 : ∀ (s p : List Int) (k : Nat) (a : Int), 0 ≤ a → a + 1 * s.length ≤ 1000000000 → p.length + s.length ≤ 1000000000 → s.length < k → laws_markInt64S.l0 k (p ++ s) a (p.length : Int) = some (a + 1 * s.length, p ++ marksInt64 s.length a)
  | [], p, k, a, h0, h1, h2, hk => by
    obtain ⟨k, rfl⟩ : ∃ m, k = m + 1 := ⟨k - 1, by simp at hk; omega⟩
    simp only [laws_markInt64S.l0]
    rw [if_neg (by simp)]
    simp [marksInt64]
  | b :: s, p, k, a, h0, h1, h2, hk => by
    obtain ⟨k, rfl⟩ : ∃ m, k = m + 1 := ⟨k - 1, by simp at hk; omega⟩
    simp only [List.length_cons] at h1 h2 hk
    have ih := laws_markInt64S_l0 s (p ++ [a]) k (a + 1) (by omega) (by omega) (by simp; omega) (by omega)
    simp only [laws_markInt64S.l0]
    rw [if_pos (by simp; omega), if_pos (by omega)]
    simp only [Option.bind_some, set_mid, rd_midInt64]
    have w1 : wrap64 (a + 1) = a + 1 := by rw [w64 (by omega)] <;> omega
    simp only [w1]
    have e1 : p ++ a :: s = (p ++ [a]) ++ s := by simp
    have e2 : (p.length : Int) + 1 = ((p ++ [a]).length : Int) := by simp
    rw [w64 (n := (p.length : Int) + 1) (by omega), e1, e2, ih]
    have e3 : a + 1 + 1 * (s.length : Int) = a + 1 * ((s.length + 1 : Nat) : Int) := by omega
    rw [e3]
    simp [marksInt64]
theorem laws_markInt64S_eq (l : List Int) (a : Int) (h0 : 0 ≤ a) (h1 : a + 1 * l.length ≤ 1000000000) (h2 : l.length ≤ 1000000000) (k : Nat) (hk : l.length < k) : laws_markInt64S.f k l a = some (a + 1 * l.length, marksInt64 l.length a) := by
  unfold laws_markInt64S.f
  have := laws_markInt64S_l0 l [] k a h0 h1 (by simpa using h2) hk
  simpa using this
theorem laws_heldInt64S_l0 : ∀ (m : Nat) (p : List Int) (k : Nat) (a : Int), 0 ≤ a → a + 1 * m ≤ 1000000000 → p.length + m ≤ 1000000000 → m < k → laws_heldInt64S.l0 k (p ++ marksInt64 m a) a (p.length : Int) = some (a + 1 * m)
  | 0, p, k, a, h0, h1, h2, hk => by
    obtain ⟨k, rfl⟩ : ∃ m, k = m + 1 := ⟨k - 1, by omega⟩
    simp only [laws_heldInt64S.l0]
    rw [if_neg (by simp [marksInt64])]
    simp
  | m + 1, p, k, a, h0, h1, h2, hk => by
    obtain ⟨k, rfl⟩ : ∃ m, k = m + 1 := ⟨k - 1, by omega⟩
    have ih := laws_heldInt64S_l0 m (p ++ [a]) k (a + 1) (by omega) (by omega) (by simp; omega) (by omega)
    rw [show p ++ marksInt64 (m + 1) a = p ++ a :: marksInt64 m (a + 1) from rfl]
    simp only [laws_heldInt64S.l0]
    rw [if_pos (by simp; omega), if_pos (by omega)]
    simp only [rd_midInt64]
    have w1 : wrap64 (a + 1) = a + 1 := by rw [w64 (by omega)] <;> omega
    simp only [w1]
    have e1 : p ++ a :: marksInt64 m (a + 1) = (p ++ [a]) ++ marksInt64 m (a + 1) := by simp
    have e2 : (p.length : Int) + 1 = ((p ++ [a]).length : Int) := by simp
    rw [w64 (n := (p.length : Int) + 1) (by omega), e1, e2]
    simp only [if_true]
    rw [ih]
    congr 1
    omega
theorem laws_heldInt64S_eq (m : Nat) (a : Int) (h0 : 0 ≤ a) (h1 : a + 1 * m ≤ 1000000000) (h2 : m ≤ 1000000000) (k : Nat) (hk : m < k) : laws_heldInt64S.f k (marksInt64 m a) a = some (a + 1 * m) := by
  unfold laws_heldInt64S.f
  have := laws_heldInt64S_l0 m [] k a h0 h1 (by simpa using h2) hk
  simpa using this
/-- Rows of two numbers each, from a on. -/
def marksInt64S : Nat → Int → List (List Int)
  | 0, _ => []
  | n + 1, a => marksInt64 2 a :: marksInt64S n (a + 2)
theorem marksInt64S_length : ∀ (n : Nat) (a : Int), (marksInt64S n a).length = n
  | 0, _ => rfl
  | n + 1, a => by simp [marksInt64S, marksInt64S_length n]
theorem laws_eqInt64SS_l0 (l : List (List Int)) (hl : l.length ≤ 1000000000) (h2 : ∀ x ∈ l, x.length = 2) : ∀ (d k : Nat) (i : Int), 0 ≤ i → i + d = l.length → d + 5 < k → laws_eqInt64SS.l0 k l l i = some true
  | 0, k, i, h0, h1, hk => by
    obtain ⟨k, rfl⟩ : ∃ m, k = m + 1 := ⟨k - 1, by omega⟩
    simp only [laws_eqInt64SS.l0]
    rw [if_neg (by omega)]
  | d + 1, k, i, h0, h1, hk => by
    obtain ⟨k, rfl⟩ : ∃ m, k = m + 1 := ⟨k - 1, by omega⟩
    have hx : (rd_L3 l i).length = 2 := h2 _ (by unfold rd_L3; rw [List.getD_eq_getElem?_getD, List.getElem?_eq_getElem (by omega)]; exact List.getElem_mem _)
    simp only [laws_eqInt64SS.l0]
    rw [if_pos (by omega), if_pos (by omega), if_pos (by omega), laws_eqInt64S_same _ (by omega) k (by omega), Option.bind_some]
    first | rw [if_pos trivial] | rw [if_pos rfl]
    rw [w64 (by omega)]
    exact laws_eqInt64SS_l0 l hl h2 d k (i + 1) (by omega) (by omega) (by omega)
theorem laws_eqInt64SS_same (l : List (List Int)) (hl : l.length ≤ 1000000000) (h2 : ∀ x ∈ l, x.length = 2) (k : Nat) (hk : l.length + 5 < k) : laws_eqInt64SS.f k l l = some true := by
  unfold laws_eqInt64SS.f
  rw [if_pos rfl]
  exact laws_eqInt64SS_l0 l hl h2 l.length k 0 (by omega) (by omega) hk
theorem laws_markInt64SS_l0 : ∀ (s p : List (List Int)) (k : Nat) (a : Int), 0 ≤ a → a + 2 * s.length ≤ 1000000000 → p.length + s.length ≤ 1000000000 → (∀ x ∈ s, x.length = 2) → s.length + 5 < k → laws_markInt64SS.l0 k (p ++ s) a (p.length : Int) = some (a + 2 * s.length, p ++ marksInt64S s.length a)
  | [], p, k, a, h0, h1, h2, h3, hk => by
    obtain ⟨k, rfl⟩ : ∃ m, k = m + 1 := ⟨k - 1, by simp at hk; omega⟩
    simp only [laws_markInt64SS.l0]
    rw [if_neg (by simp)]
    simp [marksInt64S]
  | b :: s, p, k, a, h0, h1, h2, h3, hk => by
    obtain ⟨k, rfl⟩ : ∃ m, k = m + 1 := ⟨k - 1, by simp at hk; omega⟩
    simp only [List.length_cons] at h1 h2 hk
    have hb : b.length = 2 := h3 b (by simp)
    have hm := laws_markInt64S_eq b a h0 (by rw [hb]; omega) (by omega) k (by omega)
    have ih := laws_markInt64SS_l0 s (p ++ [marksInt64 2 a]) k (a + 2) (by omega) (by omega) (by simp; omega) (fun x hx => h3 x (by simp [hx])) (by omega)
    simp only [laws_markInt64SS.l0]
    rw [if_pos (by simp; omega), if_pos (by omega), show rd_L3 (p ++ b :: s) (p.length : Int) = b from getD_mid _ p b s, hm, Option.bind_some]
    simp only [set_mid, hb]
    have e0 : a + 1 * ((2 : Nat) : Int) = a + 2 := by omega
    have e1 : p ++ marksInt64 2 a :: s = (p ++ [marksInt64 2 a]) ++ s := by simp
    have e2 : (p.length : Int) + 1 = ((p ++ [marksInt64 2 a]).length : Int) := by simp
    rw [w64 (n := (p.length : Int) + 1) (by omega), e0, e1, e2, ih]
    have e3 : a + 2 + 2 * (s.length : Int) = a + 2 * ((s.length + 1 : Nat) : Int) := by omega
    rw [e3]
    simp [marksInt64S]
theorem laws_markInt64SS_eq (l : List (List Int)) (a : Int) (h0 : 0 ≤ a) (h1 : a + 2 * l.length ≤ 1000000000) (h2 : l.length ≤ 1000000000) (h3 : ∀ x ∈ l, x.length = 2) (k : Nat) (hk : l.length + 5 < k) : laws_markInt64SS.f k l a = some (a + 2 * l.length, marksInt64S l.length a) := by
  unfold laws_markInt64SS.f
  have := laws_markInt64SS_l0 l [] k a h0 h1 (by simpa using h2) h3 hk
  simpa using this
theorem laws_heldInt64SS_l0 : ∀ (m : Nat) (p : List (List Int)) (k : Nat) (a : Int), 0 ≤ a → a + 2 * m ≤ 1000000000 → p.length + m ≤ 1000000000 → m + 5 < k → laws_heldInt64SS.l0 k (p ++ marksInt64S m a) a (p.length : Int) = some (a + 2 * m)
  | 0, p, k, a, h0, h1, h2, hk => by
    obtain ⟨k, rfl⟩ : ∃ m, k = m + 1 := ⟨k - 1, by omega⟩
    simp only [laws_heldInt64SS.l0]
    rw [if_neg (by simp [marksInt64S])]
    simp
  | m + 1, p, k, a, h0, h1, h2, hk => by
    obtain ⟨k, rfl⟩ : ∃ m, k = m + 1 := ⟨k - 1, by omega⟩
    have ih := laws_heldInt64SS_l0 m (p ++ [marksInt64 2 a]) k (a + 2) (by omega) (by omega) (by simp; omega) (by omega)
    have hh : laws_heldInt64S.f k (marksInt64 2 a) a = some (a + 2) := by
      have := laws_heldInt64S_eq 2 a h0 (by omega) (by omega) k (by omega)
      rw [this]
      congr 1
    rw [show p ++ marksInt64S (m + 1) a = p ++ marksInt64 2 a :: marksInt64S m (a + 2) from rfl]
    simp only [laws_heldInt64SS.l0]
    rw [if_pos (by simp; omega), if_pos (by omega), show rd_L3 (p ++ marksInt64 2 a :: marksInt64S m (a + 2)) (p.length : Int) = marksInt64 2 a from getD_mid _ p _ _, hh, Option.bind_some, if_neg (by omega)]
    have e1 : p ++ marksInt64 2 a :: marksInt64S m (a + 2) = (p ++ [marksInt64 2 a]) ++ marksInt64S m (a + 2) := by simp
    have e2 : (p.length : Int) + 1 = ((p ++ [marksInt64 2 a]).length : Int) := by simp
    rw [w64 (n := (p.length : Int) + 1) (by omega), e1, e2, ih]
    congr 1
    omega
theorem laws_heldInt64SS_eq (m : Nat) (a : Int) (h0 : 0 ≤ a) (h1 : a + 2 * m ≤ 1000000000) (h2 : m ≤ 1000000000) (k : Nat) (hk : m + 5 < k) : laws_heldInt64SS.f k (marksInt64S m a) a = some (a + 2 * m) := by
  unfold laws_heldInt64SS.f
  have := laws_heldInt64SS_l0 m [] k a h0 h1 (by simpa using h2) hk
  simpa using this
theorem laws_szAreaS_le {l : List (S141)} {a s : Int} (h : laws_szAreaS.f l a = some s) (hg : ¬ s < 0) (hl : l.length ≤ 140737488351232) (ha : -1000000000000000 ≤ a ∧ a ≤ 1000000) : (l.length : Int) ≤ a ∧ 0 ≤ s ∧ s ≤ 1000000 := by
  unfold laws_szAreaS.f at h
  rw [w64 (by omega)] at h
  split at h
  · injection h; omega
  · injection h; omega
theorem laws_szAreaS_some (l : List (S141)) (a : Int) : ∃ s, laws_szAreaS.f l a = some s := by
  unfold laws_szAreaS.f
  split
  · exact ⟨_, rfl⟩
  · exact ⟨_, rfl⟩
theorem facts (l0 : (List S141)) (q0 : (l0.length * 40 ≤ 140737488351232 ∧ ∀ x ∈ l0, (I64 x.f0 ∧ I64 x.f1 ∧ I64 x.f2 ∧ I64 x.f3 ∧ I64 x.f4))) (t1 : Int) (z0 : laws_szAreaS.f l0 1000000 = some t1) (g0 : ¬ t1 < 0) :
    ∃ (k : Nat) (m0 f0 : List S83) (t0 : Int) (kk0 : Int) (mm0 : List S83) (r1 : List (List Int)) (r2 : Int) (kr : Int) (rr : List (List Int)), full_toAreaS.f k l0 false = some f0 ∧ f0.take l0.length = m0 ∧ laws_toAreaS.f k l0 true = some m0 ∧ laws_roomBehind.f (m0.length : Int) = some t0 ∧ wrap64 ((m0.length : Int) + t0) = (f0.length : Int) ∧ laws_eqAreaS.f k f0 f0 = some true ∧ laws_markAreaS.f k m0 101 = some (kk0, mm0) ∧ ¬ kk0 < 0 ∧ spec_OverlappingAreas.f k m0 = some (r1, r2) ∧ impl_OverlappingAreas.f k m0 = some (r1, r2) ∧ laws_eqInt64SS.f k r1 r1 = some true ∧ laws_markInt64SS.f k r1 101 = some (kr, rr) ∧ r1.length = rr.length ∧ laws_heldInt64SS.f k rr 101 = some kr ∧ ¬ kr < 0 := by
  have b0 : l0.length ≤ 140737488351232 := by have := q0.1; omega
  have c0 := laws_szAreaS_le z0 g0 b0 (by omega)
  have n0 : l0.length ≤ 1000000 := by omega
  obtain ⟨K0, r1, r2, ⟨hrl, hr2⟩, hag⟩ := Pure.agree_OverlappingAreas (l0.map fun x => (⟨x.f0, x.f1, x.f2, x.f3, x.f4⟩ : S83)) (by simpa using n0) (by have := q0.2; simpa using this)
  have hrl' := hrl
  exact ⟨K0 + 100000000, (l0.map fun x => (⟨x.f0, x.f1, x.f2, x.f3, x.f4⟩ : S83)), ((l0.map fun x => (⟨x.f0, x.f1, x.f2, x.f3, x.f4⟩ : S83)) ++ List.replicate (room l0.length) (⟨(-7000000000000000101), (-7000000000000000101), (-7000000000000000101), (-7000000000000000101), (-7000000000000000101)⟩ : S83)), ((room l0.length : Nat) : Int), (101 + 5 * ((l0.map fun x => (⟨x.f0, x.f1, x.f2, x.f3, x.f4⟩ : S83)).length : Int)), (marksArea (l0.map fun x => (⟨x.f0, x.f1, x.f2, x.f3, x.f4⟩ : S83)).length 101), r1, r2, (101 + 2 * (r1.length : Int)), (marksInt64S r1.length 101), full_toAreaS_eq l0 false (.inl rfl) n0 _ (by omega), (by rw [List.take_append_of_le_length (by simp), List.take_of_length_le (by simp)]), laws_toAreaS_bare l0 n0 _ (by omega), (by first | exact room_eq _ | (rw [List.length_map]; exact room_eq _)), (by have := room_le l0.length; rw [w64 (by (try simp only [List.length_map]); omega)]; simp), laws_eqAreaS_same _ (by have := room_le l0.length; simp; omega) _ (by have := room_le l0.length; simp; omega), laws_markAreaS_eq _ _ (by (try simp only [List.length_map]); omega) (by (try simp only [List.length_map]); omega) (by (try simp only [List.length_map]); omega) _ (by (try simp only [List.length_map]); omega), (by (try simp only [List.length_map]); omega), (hag _ (by omega)).1, (hag _ (by omega)).2, laws_eqInt64SS_same _ (by omega) hr2 _ (by omega), laws_markInt64SS_eq _ _ (by omega) (by omega) (by omega) hr2 _ (by omega), (marksInt64S_length _ _).symm, laws_heldInt64SS_eq _ _ (by omega) (by omega) (by omega) _ (by omega), (by omega)⟩
end Go.Proofs.Ytedcdhnbceaaeaa.FactsFnExactOverlappingAreas
