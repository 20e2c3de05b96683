/- The plain facts that the walk of FnExactGreatestCalibre leans on: its helpers at these arguments, and that the program's answer is the reference's. No condition but the bounds that stand in it. -/
import Derived.Test.YtmahecjbejffoaaPFnExactGreatestCalibrex0
import Derived.Test.YtmahecjbejffoaaQFnExactGreatestCalibrea
import Derived.Test.YtmahecjbejffoaaQFnExactGreatestCalibreb
import Derived.Test.YtmahecjbejffoaaQFnExactGreatestCalibrec
import Derived.Test.YtmahecjbejffoaaQFnExactGreatestCalibred
import Derived.Test.YtmahecjbejffoaaQFnExactGreatestCalibree
import Derived.Test.YtmahecjbejffoaaQFnExactGreatestCalibref
import Derived.Test.YtmahecjbejffoaaPureFnExactGreatestCalibre
import Derived.Test.YtmahecjbejffoaaLiftFnExactGreatestCalibre
namespace Go.Proofs.Ytmahecjbejffoaa.FactsFnExactGreatestCalibre
open Go.RowKit Go.Proofs.Ytmahecjbejffoaa.PFnExactGreatestCalibre Go.Proofs.YtmahecjbejffoaaW.PrintWords Go.Proofs.YtmahecjbejffoaaW.PrintLast Go.Proofs.Ytmahecjbejffoaa.Opening
open Go.Proofs.Ytmahecjbejffoaa.Pure (w64)
set_option linter.unusedVariables false
set_option linter.unusedSimpArgs false

def room (n : Nat) : Nat := if n % 6 = 5 then 0 else if n % 3 = 0 then 1 else n
theorem room_le (n : Nat) : room n ≤ n + 1 := by unfold room; split <;> (try split) <;> omega
theorem room_eq (n : Nat) : laws_roomBehind.f (n : Int) = some ((room n : Nat) : Int) := by
  unfold laws_roomBehind.f room
  rw [Int.tmod_eq_emod_of_nonneg (by omega), Int.tmod_eq_emod_of_nonneg (by omega)]
  by_cases h : n % 6 = 5
  · rw [if_pos (by omega), if_pos h]; rfl
  · rw [if_neg (by omega), if_neg h]
    by_cases h2 : n % 3 = 0
    · rw [if_pos (by omega), if_pos h2]; rfl
    · rw [if_neg (by omega), if_neg h2]
theorem set_mid {α : Type} (p : List α) (b v : α) (s : List α) : (p ++ b :: s).set ((p.length : Int)).toNat v = p ++ v :: s := by
  rw [Int.toNat_natCast, List.set_append_right _ _ (Nat.le_refl _)]
  simp
theorem getD_mid {α : Type} (z : α) (p : List α) (b : α) (s : List α) : (p ++ b :: s).getD ((p.length : Int)).toNat z = b := by
  rw [Int.toNat_natCast, List.getD_eq_getElem?_getD, List.getElem?_append_right (Nat.le_refl _)]
  simp


theorem full_toAreaS_l1 (l : List S160) : ∀ (j k : Nat) (pre : List S158), l.length ≤ pre.length → pre.length + j ≤ 4000000 → j < k → full_toAreaS.l1 k l (pre ++ List.replicate j z158) (pre.length : Int) = some (pre ++ List.replicate j (⟨(-7000000000000000101), (-7000000000000000101), (-7000000000000000101), (-7000000000000000101), (-7000000000000000101)⟩ : S158))
  | 0, k, pre, h1, h2, hk => by
    obtain ⟨k, rfl⟩ : ∃ m, k = m + 1 := ⟨k - 1, by omega⟩
    simp only [full_toAreaS.l1, List.replicate_zero, List.append_nil]
    rw [if_neg (by omega), if_pos (by omega), if_pos (by omega)]
  | j + 1, k, pre, h1, h2, hk => by
    obtain ⟨k, rfl⟩ : ∃ m, k = m + 1 := ⟨k - 1, by omega⟩
    have ih := full_toAreaS_l1 l j k (pre ++ [(⟨(-7000000000000000101), (-7000000000000000101), (-7000000000000000101), (-7000000000000000101), (-7000000000000000101)⟩ : S158)]) (by simp; omega) (by simp; omega) (by omega)
    simp only [full_toAreaS.l1]
    rw [if_pos (by simp; omega)]
    simp only [laws_fillerArea.f, Option.bind_some]
    rw [if_pos (by omega), w64 (by omega), List.replicate_succ, set_mid]
    have e1 : pre ++ (⟨(-7000000000000000101), (-7000000000000000101), (-7000000000000000101), (-7000000000000000101), (-7000000000000000101)⟩ : S158) :: List.replicate j z158 = (pre ++ [(⟨(-7000000000000000101), (-7000000000000000101), (-7000000000000000101), (-7000000000000000101), (-7000000000000000101)⟩ : S158)]) ++ List.replicate j z158 := by simp
    have e2 : (pre.length : Int) + 1 = ((pre ++ [(⟨(-7000000000000000101), (-7000000000000000101), (-7000000000000000101), (-7000000000000000101), (-7000000000000000101)⟩ : S158)]).length : Int) := by simp
    rw [e1, e2, ih]
    simp [List.replicate_succ]
theorem full_toAreaS_l0 (l : List S160) (R : Nat) (hl : l.length ≤ 1000000) (hR : R ≤ 1000001) : ∀ (s p : List S160) (k : Nat), l = p ++ s → s.length + R + 2 ≤ k → full_toAreaS.l0 k l ((p.map fun x => (⟨x.f0, x.f1, x.f2, x.f3, x.f4⟩ : S158)) ++ List.replicate (s.length + R) z158) (p.length : Int) = some ((l.map fun x => (⟨x.f0, x.f1, x.f2, x.f3, x.f4⟩ : S158)) ++ List.replicate R (⟨(-7000000000000000101), (-7000000000000000101), (-7000000000000000101), (-7000000000000000101), (-7000000000000000101)⟩ : S158))
  | [], p, k, h, hk => by
    obtain ⟨k, rfl⟩ : ∃ m, k = m + 1 := ⟨k - 1, by omega⟩
    have hp : l = p := by simpa using h
    subst hp
    simp only [full_toAreaS.l0]
    rw [if_neg (by omega)]
    have := full_toAreaS_l1 l R k (l.map fun x => (⟨x.f0, x.f1, x.f2, x.f3, x.f4⟩ : S158)) (by simp) (by (try simp only [List.length_map]); omega) (by simp at hk; omega)
    simpa using this
  | a :: s, p, k, h, hk => by
    obtain ⟨k, rfl⟩ : ∃ m, k = m + 1 := ⟨k - 1, by omega⟩
    have hlen : l.length = p.length + (s.length + 1) := by rw [h]; simp
    have hget : rd_T160 l (p.length : Int) = a := by rw [h]; exact getD_mid _ p a s
    have ih := full_toAreaS_l0 l R hl hR s (p ++ [a]) k (by rw [h]; simp) (by simp at hk ⊢; omega)
    simp only [full_toAreaS.l0]
    rw [if_pos (by omega), if_pos (by omega), hget]
    simp only [laws_toArea.f, Option.bind_some]
    rw [if_pos (by simp; omega), w64 (by omega)]
    have e0 : (a :: s).length + R = (s.length + R) + 1 := by simp; omega
    have e1 : ((p.map fun x => (⟨x.f0, x.f1, x.f2, x.f3, x.f4⟩ : S158)) ++ List.replicate ((a :: s).length + R) z158).set ((p.length : Int)).toNat (⟨a.f0, a.f1, a.f2, a.f3, a.f4⟩ : S158) = ((p ++ [a]).map fun x => (⟨x.f0, x.f1, x.f2, x.f3, x.f4⟩ : S158)) ++ List.replicate (s.length + R) z158 := by
      rw [e0, List.replicate_succ]
      have := set_mid (p.map fun x => (⟨x.f0, x.f1, x.f2, x.f3, x.f4⟩ : S158)) z158 (⟨a.f0, a.f1, a.f2, a.f3, a.f4⟩ : S158) (List.replicate (s.length + R) z158)
      (try simp only [List.length_map] at this)
      rw [this]
      simp
    have e2 : (p.length : Int) + 1 = ((p ++ [a]).length : Int) := by simp
    rw [e1, e2, ih]
theorem full_toAreaS_eq (l : List S160) (b : Bool) (hb : b = false ∨ l ≠ []) (hl : l.length ≤ 1000000) (k : Nat) (hk : 2 * l.length + 10 ≤ k) : full_toAreaS.f k l b = some ((l.map fun x => (⟨x.f0, x.f1, x.f2, x.f3, x.f4⟩ : S158)) ++ List.replicate (room l.length) (⟨(-7000000000000000101), (-7000000000000000101), (-7000000000000000101), (-7000000000000000101), (-7000000000000000101)⟩ : S158)) := by
  obtain ⟨k, rfl⟩ : ∃ m, k = m + 1 := ⟨k - 1, by omega⟩
  have hr := room_le l.length
  have e : full_toAreaS.f (k + 1) l b = full_toAreaS.j0 (k + 1) l false := by
    unfold full_toAreaS.f
    cases b with
    | false => rfl
    | true =>
      have hn : l ≠ [] := by simpa using hb
      have : ((l.length : Int) == 0) = false := by
        cases l with
        | nil => exact absurd rfl hn
        | cons a s => simp; omega
      rw [if_pos rfl, this]
  rw [e]
  simp only [full_toAreaS.j0]
  rw [if_neg (by decide), room_eq, Option.bind_some, w64 (by omega), if_pos (by omega), if_pos (by omega)]
  have := full_toAreaS_l0 l (room l.length) hl (by omega) l [] k (by simp) (by omega)
  have e3 : ((l.length : Int) + (room l.length : Int)).toNat = l.length + room l.length := by omega
  rw [e3]
  simpa using this


theorem laws_toAreaS_l1 (l : List S160) : ∀ (j k : Nat) (pre : List S158), l.length ≤ pre.length → pre.length + j ≤ 4000000 → j < k → laws_toAreaS.l1 k l (pre ++ List.replicate j z158) (pre.length : Int) = some ((pre ++ List.replicate j (⟨(-7000000000000000101), (-7000000000000000101), (-7000000000000000101), (-7000000000000000101), (-7000000000000000101)⟩ : S158)).take l.length)
  | 0, k, pre, h1, h2, hk => by
    obtain ⟨k, rfl⟩ : ∃ m, k = m + 1 := ⟨k - 1, by omega⟩
    simp only [laws_toAreaS.l1, List.replicate_zero, List.append_nil]
    rw [if_neg (by omega), if_pos (by omega), if_pos (by omega)]
    rw [Int.toNat_natCast]
  | j + 1, k, pre, h1, h2, hk => by
    obtain ⟨k, rfl⟩ : ∃ m, k = m + 1 := ⟨k - 1, by omega⟩
    have ih := laws_toAreaS_l1 l j k (pre ++ [(⟨(-7000000000000000101), (-7000000000000000101), (-7000000000000000101), (-7000000000000000101), (-7000000000000000101)⟩ : S158)]) (by simp; omega) (by simp; omega) (by omega)
    simp only [laws_toAreaS.l1]
    rw [if_pos (by simp; omega)]
    simp only [laws_fillerArea.f, Option.bind_some]
    rw [if_pos (by omega), w64 (by omega), List.replicate_succ, set_mid]
    have e1 : pre ++ (⟨(-7000000000000000101), (-7000000000000000101), (-7000000000000000101), (-7000000000000000101), (-7000000000000000101)⟩ : S158) :: List.replicate j z158 = (pre ++ [(⟨(-7000000000000000101), (-7000000000000000101), (-7000000000000000101), (-7000000000000000101), (-7000000000000000101)⟩ : S158)]) ++ List.replicate j z158 := by simp
    have e2 : (pre.length : Int) + 1 = ((pre ++ [(⟨(-7000000000000000101), (-7000000000000000101), (-7000000000000000101), (-7000000000000000101), (-7000000000000000101)⟩ : S158)]).length : Int) := by simp
    rw [e1, e2, ih]
    simp [List.replicate_succ]
theorem laws_toAreaS_l0 (l : List S160) (R : Nat) (hl : l.length ≤ 1000000) (hR : R ≤ 1000001) : ∀ (s p : List S160) (k : Nat), l = p ++ s → s.length + R + 2 ≤ k → laws_toAreaS.l0 k l ((p.map fun x => (⟨x.f0, x.f1, x.f2, x.f3, x.f4⟩ : S158)) ++ List.replicate (s.length + R) z158) (p.length : Int) = some (((l.map fun x => (⟨x.f0, x.f1, x.f2, x.f3, x.f4⟩ : S158)) ++ List.replicate R (⟨(-7000000000000000101), (-7000000000000000101), (-7000000000000000101), (-7000000000000000101), (-7000000000000000101)⟩ : S158)).take l.length)
  | [], p, k, h, hk => by
    obtain ⟨k, rfl⟩ : ∃ m, k = m + 1 := ⟨k - 1, by omega⟩
    have hp : l = p := by simpa using h
    subst hp
    simp only [laws_toAreaS.l0]
    rw [if_neg (by omega)]
    have := laws_toAreaS_l1 l R k (l.map fun x => (⟨x.f0, x.f1, x.f2, x.f3, x.f4⟩ : S158)) (by simp) (by (try simp only [List.length_map]); omega) (by simp at hk; omega)
    simpa using this
  | a :: s, p, k, h, hk => by
    obtain ⟨k, rfl⟩ : ∃ m, k = m + 1 := ⟨k - 1, by omega⟩
    have hlen : l.length = p.length + (s.length + 1) := by rw [h]; simp
    have hget : rd_T160 l (p.length : Int) = a := by rw [h]; exact getD_mid _ p a s
    have ih := laws_toAreaS_l0 l R hl hR s (p ++ [a]) k (by rw [h]; simp) (by simp at hk ⊢; omega)
    simp only [laws_toAreaS.l0]
    rw [if_pos (by omega), if_pos (by omega), hget]
    simp only [laws_toArea.f, Option.bind_some]
    rw [if_pos (by simp; omega), w64 (by omega)]
    have e0 : (a :: s).length + R = (s.length + R) + 1 := by simp; omega
    have e1 : ((p.map fun x => (⟨x.f0, x.f1, x.f2, x.f3, x.f4⟩ : S158)) ++ List.replicate ((a :: s).length + R) z158).set ((p.length : Int)).toNat (⟨a.f0, a.f1, a.f2, a.f3, a.f4⟩ : S158) = ((p ++ [a]).map fun x => (⟨x.f0, x.f1, x.f2, x.f3, x.f4⟩ : S158)) ++ List.replicate (s.length + R) z158 := by
      rw [e0, List.replicate_succ]
      have := set_mid (p.map fun x => (⟨x.f0, x.f1, x.f2, x.f3, x.f4⟩ : S158)) z158 (⟨a.f0, a.f1, a.f2, a.f3, a.f4⟩ : S158) (List.replicate (s.length + R) z158)
      (try simp only [List.length_map] at this)
      rw [this]
      simp
    have e2 : (p.length : Int) + 1 = ((p ++ [a]).length : Int) := by simp
    rw [e1, e2, ih]
theorem laws_toAreaS_eq (l : List S160) (b : Bool) (hb : b = false ∨ l ≠ []) (hl : l.length ≤ 1000000) (k : Nat) (hk : 2 * l.length + 10 ≤ k) : laws_toAreaS.f k l b = some (((l.map fun x => (⟨x.f0, x.f1, x.f2, x.f3, x.f4⟩ : S158)) ++ List.replicate (room l.length) (⟨(-7000000000000000101), (-7000000000000000101), (-7000000000000000101), (-7000000000000000101), (-7000000000000000101)⟩ : S158)).take l.length) := by
  obtain ⟨k, rfl⟩ : ∃ m, k = m + 1 := ⟨k - 1, by omega⟩
  have hr := room_le l.length
  have e : laws_toAreaS.f (k + 1) l b = laws_toAreaS.j0 (k + 1) l false := by
    unfold laws_toAreaS.f
    cases b with
    | false => rfl
    | true =>
      have hn : l ≠ [] := by simpa using hb
      have : ((l.length : Int) == 0) = false := by
        cases l with
        | nil => exact absurd rfl hn
        | cons a s => simp; omega
      rw [if_pos rfl, this]
  rw [e]
  simp only [laws_toAreaS.j0]
  rw [if_neg (by decide), room_eq, Option.bind_some, w64 (by omega), if_pos (by omega), if_pos (by omega)]
  have := laws_toAreaS_l0 l (room l.length) hl (by omega) l [] k (by simp) (by omega)
  have e3 : ((l.length : Int) + (room l.length : Int)).toNat = l.length + room l.length := by omega
  rw [e3]
  simpa using this


theorem laws_toAreaS_bare (l : List S160) (hl : l.length ≤ 1000000) (k : Nat) (hk : 2 * l.length + 10 ≤ k) : laws_toAreaS.f k l true = some (l.map fun x => (⟨x.f0, x.f1, x.f2, x.f3, x.f4⟩ : S158)) := by
  cases l with
  | nil =>
    obtain ⟨k, rfl⟩ : ∃ m, k = m + 1 := ⟨k - 1, by omega⟩
    simp [laws_toAreaS.f, laws_toAreaS.j0]
  | cons a s =>
    rw [laws_toAreaS_eq (a :: s) true (.inr (by simp)) hl k hk]
    congr 1
    rw [List.take_append_of_le_length (by simp), List.take_of_length_le (by simp)]


theorem full_toDemandS_l1 (l : List S155) : ∀ (j k : Nat) (pre : List S153), l.length ≤ pre.length → pre.length + j ≤ 4000000 → j < k → full_toDemandS.l1 k l (pre ++ List.replicate j z153) (pre.length : Int) = some (pre ++ List.replicate j (⟨(-7000000000000000101), (-7000000000000000101), (-7000000000000000101)⟩ : S153))
  | 0, k, pre, h1, h2, hk => by
    obtain ⟨k, rfl⟩ : ∃ m, k = m + 1 := ⟨k - 1, by omega⟩
    simp only [full_toDemandS.l1, List.replicate_zero, List.append_nil]
    rw [if_neg (by omega), if_pos (by omega), if_pos (by omega)]
  | j + 1, k, pre, h1, h2, hk => by
    obtain ⟨k, rfl⟩ : ∃ m, k = m + 1 := ⟨k - 1, by omega⟩
    have ih := full_toDemandS_l1 l j k (pre ++ [(⟨(-7000000000000000101), (-7000000000000000101), (-7000000000000000101)⟩ : S153)]) (by simp; omega) (by simp; omega) (by omega)
    simp only [full_toDemandS.l1]
    rw [if_pos (by simp; omega)]
    simp only [laws_fillerDemand.f, Option.bind_some]
    rw [if_pos (by omega), w64 (by omega), List.replicate_succ, set_mid]
    have e1 : pre ++ (⟨(-7000000000000000101), (-7000000000000000101), (-7000000000000000101)⟩ : S153) :: List.replicate j z153 = (pre ++ [(⟨(-7000000000000000101), (-7000000000000000101), (-7000000000000000101)⟩ : S153)]) ++ List.replicate j z153 := by simp
    have e2 : (pre.length : Int) + 1 = ((pre ++ [(⟨(-7000000000000000101), (-7000000000000000101), (-7000000000000000101)⟩ : S153)]).length : Int) := by simp
    rw [e1, e2, ih]
    simp [List.replicate_succ]
theorem full_toDemandS_l0 (l : List S155) (R : Nat) (hl : l.length ≤ 1000000) (hR : R ≤ 1000001) : ∀ (s p : List S155) (k : Nat), l = p ++ s → s.length + R + 2 ≤ k → full_toDemandS.l0 k l ((p.map fun x => (⟨x.f0, x.f1, x.f2⟩ : S153)) ++ List.replicate (s.length + R) z153) (p.length : Int) = some ((l.map fun x => (⟨x.f0, x.f1, x.f2⟩ : S153)) ++ List.replicate R (⟨(-7000000000000000101), (-7000000000000000101), (-7000000000000000101)⟩ : S153))
  | [], p, k, h, hk => by
    obtain ⟨k, rfl⟩ : ∃ m, k = m + 1 := ⟨k - 1, by omega⟩
    have hp : l = p := by simpa using h
    subst hp
    simp only [full_toDemandS.l0]
    rw [if_neg (by omega)]
    have := full_toDemandS_l1 l R k (l.map fun x => (⟨x.f0, x.f1, x.f2⟩ : S153)) (by simp) (by (try simp only [List.length_map]); omega) (by simp at hk; omega)
    simpa using this
  | a :: s, p, k, h, hk => by
    obtain ⟨k, rfl⟩ : ∃ m, k = m + 1 := ⟨k - 1, by omega⟩
    have hlen : l.length = p.length + (s.length + 1) := by rw [h]; simp
    have hget : rd_T155 l (p.length : Int) = a := by rw [h]; exact getD_mid _ p a s
    have ih := full_toDemandS_l0 l R hl hR s (p ++ [a]) k (by rw [h]; simp) (by simp at hk ⊢; omega)
    simp only [full_toDemandS.l0]
    rw [if_pos (by omega), if_pos (by omega), hget]
    simp only [laws_toDemand.f, Option.bind_some]
    rw [if_pos (by simp; omega), w64 (by omega)]
    have e0 : (a :: s).length + R = (s.length + R) + 1 := by simp; omega
    have e1 : ((p.map fun x => (⟨x.f0, x.f1, x.f2⟩ : S153)) ++ List.replicate ((a :: s).length + R) z153).set ((p.length : Int)).toNat (⟨a.f0, a.f1, a.f2⟩ : S153) = ((p ++ [a]).map fun x => (⟨x.f0, x.f1, x.f2⟩ : S153)) ++ List.replicate (s.length + R) z153 := by
      rw [e0, List.replicate_succ]
      have := set_mid (p.map fun x => (⟨x.f0, x.f1, x.f2⟩ : S153)) z153 (⟨a.f0, a.f1, a.f2⟩ : S153) (List.replicate (s.length + R) z153)
      (try simp only [List.length_map] at this)
      rw [this]
      simp
    have e2 : (p.length : Int) + 1 = ((p ++ [a]).length : Int) := by simp
    rw [e1, e2, ih]
theorem full_toDemandS_eq (l : List S155) (b : Bool) (hb : b = false ∨ l ≠ []) (hl : l.length ≤ 1000000) (k : Nat) (hk : 2 * l.length + 10 ≤ k) : full_toDemandS.f k l b = some ((l.map fun x => (⟨x.f0, x.f1, x.f2⟩ : S153)) ++ List.replicate (room l.length) (⟨(-7000000000000000101), (-7000000000000000101), (-7000000000000000101)⟩ : S153)) := by
  obtain ⟨k, rfl⟩ : ∃ m, k = m + 1 := ⟨k - 1, by omega⟩
  have hr := room_le l.length
  have e : full_toDemandS.f (k + 1) l b = full_toDemandS.j0 (k + 1) l false := by
    unfold full_toDemandS.f
    cases b with
    | false => rfl
    | true =>
      have hn : l ≠ [] := by simpa using hb
      have : ((l.length : Int) == 0) = false := by
        cases l with
        | nil => exact absurd rfl hn
        | cons a s => simp; omega
      rw [if_pos rfl, this]
  rw [e]
  simp only [full_toDemandS.j0]
  rw [if_neg (by decide), room_eq, Option.bind_some, w64 (by omega), if_pos (by omega), if_pos (by omega)]
  have := full_toDemandS_l0 l (room l.length) hl (by omega) l [] k (by simp) (by omega)
  have e3 : ((l.length : Int) + (room l.length : Int)).toNat = l.length + room l.length := by omega
  rw [e3]
  simpa using this


theorem laws_toDemandS_l1 (l : List S155) : ∀ (j k : Nat) (pre : List S153), l.length ≤ pre.length → pre.length + j ≤ 4000000 → j < k → laws_toDemandS.l1 k l (pre ++ List.replicate j z153) (pre.length : Int) = some ((pre ++ List.replicate j (⟨(-7000000000000000101), (-7000000000000000101), (-7000000000000000101)⟩ : S153)).take l.length)
  | 0, k, pre, h1, h2, hk => by
    obtain ⟨k, rfl⟩ : ∃ m, k = m + 1 := ⟨k - 1, by omega⟩
    simp only [laws_toDemandS.l1, List.replicate_zero, List.append_nil]
    rw [if_neg (by omega), if_pos (by omega), if_pos (by omega)]
    rw [Int.toNat_natCast]
  | j + 1, k, pre, h1, h2, hk => by
    obtain ⟨k, rfl⟩ : ∃ m, k = m + 1 := ⟨k - 1, by omega⟩
    have ih := laws_toDemandS_l1 l j k (pre ++ [(⟨(-7000000000000000101), (-7000000000000000101), (-7000000000000000101)⟩ : S153)]) (by simp; omega) (by simp; omega) (by omega)
    simp only [laws_toDemandS.l1]
    rw [if_pos (by simp; omega)]
    simp only [laws_fillerDemand.f, Option.bind_some]
    rw [if_pos (by omega), w64 (by omega), List.replicate_succ, set_mid]
    have e1 : pre ++ (⟨(-7000000000000000101), (-7000000000000000101), (-7000000000000000101)⟩ : S153) :: List.replicate j z153 = (pre ++ [(⟨(-7000000000000000101), (-7000000000000000101), (-7000000000000000101)⟩ : S153)]) ++ List.replicate j z153 := by simp
    have e2 : (pre.length : Int) + 1 = ((pre ++ [(⟨(-7000000000000000101), (-7000000000000000101), (-7000000000000000101)⟩ : S153)]).length : Int) := by simp
    rw [e1, e2, ih]
    simp [List.replicate_succ]
theorem laws_toDemandS_l0 (l : List S155) (R : Nat) (hl : l.length ≤ 1000000) (hR : R ≤ 1000001) : ∀ (s p : List S155) (k : Nat), l = p ++ s → s.length + R + 2 ≤ k → laws_toDemandS.l0 k l ((p.map fun x => (⟨x.f0, x.f1, x.f2⟩ : S153)) ++ List.replicate (s.length + R) z153) (p.length : Int) = some (((l.map fun x => (⟨x.f0, x.f1, x.f2⟩ : S153)) ++ List.replicate R (⟨(-7000000000000000101), (-7000000000000000101), (-7000000000000000101)⟩ : S153)).take l.length)
  | [], p, k, h, hk => by
    obtain ⟨k, rfl⟩ : ∃ m, k = m + 1 := ⟨k - 1, by omega⟩
    have hp : l = p := by simpa using h
    subst hp
    simp only [laws_toDemandS.l0]
    rw [if_neg (by omega)]
    have := laws_toDemandS_l1 l R k (l.map fun x => (⟨x.f0, x.f1, x.f2⟩ : S153)) (by simp) (by (try simp only [List.length_map]); omega) (by simp at hk; omega)
    simpa using this
  | a :: s, p, k, h, hk => by
    obtain ⟨k, rfl⟩ : ∃ m, k = m + 1 := ⟨k - 1, by omega⟩
    have hlen : l.length = p.length + (s.length + 1) := by rw [h]; simp
    have hget : rd_T155 l (p.length : Int) = a := by rw [h]; exact getD_mid _ p a s
    have ih := laws_toDemandS_l0 l R hl hR s (p ++ [a]) k (by rw [h]; simp) (by simp at hk ⊢; omega)
    simp only [laws_toDemandS.l0]
    rw [if_pos (by omega), if_pos (by omega), hget]
    simp only [laws_toDemand.f, Option.bind_some]
    rw [if_pos (by simp; omega), w64 (by omega)]
    have e0 : (a :: s).length + R = (s.length + R) + 1 := by simp; omega
    have e1 : ((p.map fun x => (⟨x.f0, x.f1, x.f2⟩ : S153)) ++ List.replicate ((a :: s).length + R) z153).set ((p.length : Int)).toNat (⟨a.f0, a.f1, a.f2⟩ : S153) = ((p ++ [a]).map fun x => (⟨x.f0, x.f1, x.f2⟩ : S153)) ++ List.replicate (s.length + R) z153 := by
      rw [e0, List.replicate_succ]
      have := set_mid (p.map fun x => (⟨x.f0, x.f1, x.f2⟩ : S153)) z153 (⟨a.f0, a.f1, a.f2⟩ : S153) (List.replicate (s.length + R) z153)
      (try simp only [List.length_map] at this)
      rw [this]
      simp
    have e2 : (p.length : Int) + 1 = ((p ++ [a]).length : Int) := by simp
    rw [e1, e2, ih]
theorem laws_toDemandS_eq (l : List S155) (b : Bool) (hb : b = false ∨ l ≠ []) (hl : l.length ≤ 1000000) (k : Nat) (hk : 2 * l.length + 10 ≤ k) : laws_toDemandS.f k l b = some (((l.map fun x => (⟨x.f0, x.f1, x.f2⟩ : S153)) ++ List.replicate (room l.length) (⟨(-7000000000000000101), (-7000000000000000101), (-7000000000000000101)⟩ : S153)).take l.length) := by
  obtain ⟨k, rfl⟩ : ∃ m, k = m + 1 := ⟨k - 1, by omega⟩
  have hr := room_le l.length
  have e : laws_toDemandS.f (k + 1) l b = laws_toDemandS.j0 (k + 1) l false := by
    unfold laws_toDemandS.f
    cases b with
    | false => rfl
    | true =>
      have hn : l ≠ [] := by simpa using hb
      have : ((l.length : Int) == 0) = false := by
        cases l with
        | nil => exact absurd rfl hn
        | cons a s => simp; omega
      rw [if_pos rfl, this]
  rw [e]
  simp only [laws_toDemandS.j0]
  rw [if_neg (by decide), room_eq, Option.bind_some, w64 (by omega), if_pos (by omega), if_pos (by omega)]
  have := laws_toDemandS_l0 l (room l.length) hl (by omega) l [] k (by simp) (by omega)
  have e3 : ((l.length : Int) + (room l.length : Int)).toNat = l.length + room l.length := by omega
  rw [e3]
  simpa using this


theorem laws_toDemandS_bare (l : List S155) (hl : l.length ≤ 1000000) (k : Nat) (hk : 2 * l.length + 10 ≤ k) : laws_toDemandS.f k l true = some (l.map fun x => (⟨x.f0, x.f1, x.f2⟩ : S153)) := by
  cases l with
  | nil =>
    obtain ⟨k, rfl⟩ : ∃ m, k = m + 1 := ⟨k - 1, by omega⟩
    simp [laws_toDemandS.f, laws_toDemandS.j0]
  | cons a s =>
    rw [laws_toDemandS_eq (a :: s) true (.inr (by simp)) hl k hk]
    congr 1
    rw [List.take_append_of_le_length (by simp), List.take_of_length_le (by simp)]


theorem laws_eqAreaS_l0 (l : List S158) (hl : l.length ≤ 1000000000) : ∀ (d k : Nat) (i : Int), 0 ≤ i → i + d = l.length → d < k → laws_eqAreaS.l0 k l l i = some true
  | 0, k, i, h0, h1, hk => by
    obtain ⟨k, rfl⟩ : ∃ m, k = m + 1 := ⟨k - 1, by omega⟩
    simp only [laws_eqAreaS.l0]
    rw [if_neg (by omega)]
  | d + 1, k, i, h0, h1, hk => by
    obtain ⟨k, rfl⟩ : ∃ m, k = m + 1 := ⟨k - 1, by omega⟩
    simp only [laws_eqAreaS.l0]
    rw [if_pos (by omega), if_pos (by omega), if_pos (by omega)]
    have e0 : laws_eqArea.f (rd_T158 l i).f0 (rd_T158 l i).f1 (rd_T158 l i).f2 (rd_T158 l i).f3 (rd_T158 l i).f4 (rd_T158 l i).f0 (rd_T158 l i).f1 (rd_T158 l i).f2 (rd_T158 l i).f3 (rd_T158 l i).f4 = some true := by unfold laws_eqArea.f; simp
    rw [e0, Option.bind_some]
    first | rw [if_pos trivial] | rw [if_pos rfl]
    rw [w64 (by omega)]
    exact laws_eqAreaS_l0 l hl d k (i + 1) (by omega) (by omega) (by omega)
theorem laws_eqAreaS_same (l : List S158) (hl : l.length ≤ 1000000000) (k : Nat) (hk : l.length < k) : laws_eqAreaS.f k l l = some true := by
  unfold laws_eqAreaS.f
  rw [if_pos rfl]
  exact laws_eqAreaS_l0 l hl l.length k 0 (by omega) (by omega) hk


theorem laws_eqDemandS_l0 (l : List S153) (hl : l.length ≤ 1000000000) : ∀ (d k : Nat) (i : Int), 0 ≤ i → i + d = l.length → d < k → laws_eqDemandS.l0 k l l i = some true
  | 0, k, i, h0, h1, hk => by
    obtain ⟨k, rfl⟩ : ∃ m, k = m + 1 := ⟨k - 1, by omega⟩
    simp only [laws_eqDemandS.l0]
    rw [if_neg (by omega)]
  | d + 1, k, i, h0, h1, hk => by
    obtain ⟨k, rfl⟩ : ∃ m, k = m + 1 := ⟨k - 1, by omega⟩
    simp only [laws_eqDemandS.l0]
    rw [if_pos (by omega), if_pos (by omega), if_pos (by omega)]
    have e0 : laws_eqDemand.f (rd_T153 l i).f0 (rd_T153 l i).f1 (rd_T153 l i).f2 (rd_T153 l i).f0 (rd_T153 l i).f1 (rd_T153 l i).f2 = some true := by unfold laws_eqDemand.f; simp
    rw [e0, Option.bind_some]
    first | rw [if_pos trivial] | rw [if_pos rfl]
    rw [w64 (by omega)]
    exact laws_eqDemandS_l0 l hl d k (i + 1) (by omega) (by omega) (by omega)
theorem laws_eqDemandS_same (l : List S153) (hl : l.length ≤ 1000000000) (k : Nat) (hk : l.length < k) : laws_eqDemandS.f k l l = some true := by
  unfold laws_eqDemandS.f
  rw [if_pos rfl]
  exact laws_eqDemandS_l0 l hl l.length k 0 (by omega) (by omega) hk


theorem laws_szAreaS_le {l : List (S160)} {a s : Int} (h : laws_szAreaS.f l a = some s) (hg : ¬ s < 0) (hl : l.length ≤ 140737488351232) (ha : -1000000000000000 ≤ a ∧ a ≤ 1000000) : (l.length : Int) ≤ a ∧ 0 ≤ s ∧ s ≤ 1000000 := by
  unfold laws_szAreaS.f at h
  rw [w64 (by omega)] at h
  split at h
  · injection h; omega
  · injection h; omega
theorem laws_szAreaS_some (l : List (S160)) (a : Int) : ∃ s, laws_szAreaS.f l a = some s := by
  unfold laws_szAreaS.f
  split
  · exact ⟨_, rfl⟩
  · exact ⟨_, rfl⟩


theorem laws_szDemandS_le {l : List (S155)} {a s : Int} (h : laws_szDemandS.f l a = some s) (hg : ¬ s < 0) (hl : l.length ≤ 140737488351232) (ha : -1000000000000000 ≤ a ∧ a ≤ 1000000) : (l.length : Int) ≤ a ∧ 0 ≤ s ∧ s ≤ 1000000 := by
  unfold laws_szDemandS.f at h
  rw [w64 (by omega)] at h
  split at h
  · injection h; omega
  · injection h; omega
theorem laws_szDemandS_some (l : List (S155)) (a : Int) : ∃ s, laws_szDemandS.f l a = some s := by
  unfold laws_szDemandS.f
  split
  · exact ⟨_, rfl⟩
  · exact ⟨_, rfl⟩

theorem facts (l0 : (List S155)) (l1 : (List S160)) (a2 : Int) (a3 : Int) (q0 : (l0.length * 24 ≤ 140737488351232 ∧ ∀ x ∈ l0, (I64 x.f0 ∧ I64 x.f1 ∧ I64 x.f2))) (q1 : (l1.length * 40 ≤ 140737488351232 ∧ ∀ x ∈ l1, (I64 x.f0 ∧ I64 x.f1 ∧ I64 x.f2 ∧ I64 x.f3 ∧ I64 x.f4))) (q2 : I64 a2) (q3 : I64 a3) (t263 : Int) (z0 : laws_szDemandS.f l0 1000000 = some t263) (g0 : ¬ t263 < 0) (t264 : Int) (z1 : laws_szAreaS.f l1 t263 = some t264) (g1 : ¬ t264 < 0) :
    ∃ (k : Nat) (m0 f0 : List S153) (t0 : Int) (m1 f1 : List S158) (t1 : Int) (r1 : Int) (r2 : Int), full_toDemandS.f k l0 false = some f0 ∧ f0.take l0.length = m0 ∧ laws_toDemandS.f k l0 true = some m0 ∧ laws_roomBehind.f (m0.length : Int) = some t0 ∧ wrap64 ((m0.length : Int) + t0) = (f0.length : Int) ∧ laws_eqDemandS.f k f0 f0 = some true ∧ full_toAreaS.f k l1 false = some f1 ∧ f1.take l1.length = m1 ∧ laws_toAreaS.f k l1 true = some m1 ∧ laws_roomBehind.f (m1.length : Int) = some t1 ∧ wrap64 ((m1.length : Int) + t1) = (f1.length : Int) ∧ laws_eqAreaS.f k f1 f1 = some true ∧ spec_GreatestCalibre.f k m0 m1 a2 a3 = some (r1, r2) ∧ impl_GreatestCalibre.f k m0 m1 a2 a3 = some (r1, r2) := by
  have b0 : l0.length ≤ 140737488351232 := by have := q0.1; omega
  have b1 : l1.length ≤ 140737488351232 := by have := q1.1; omega
  have c0 := laws_szDemandS_le z0 g0 b0 (by omega)
  have c1 := laws_szAreaS_le z1 g1 b1 (by omega)
  have n0 : l0.length ≤ 1000000 := by omega
  have n1 : l1.length ≤ 1000000 := by omega
  obtain ⟨K0, r1, r2, hag⟩ := Pure.agree_GreatestCalibre (l0.map fun x => (⟨x.f0, x.f1, x.f2⟩ : S153)) (l1.map fun x => (⟨x.f0, x.f1, x.f2, x.f3, x.f4⟩ : S158)) a2 a3 (by simpa using n0) (by have := q0.2; simpa using this) (by simpa using n1) (by have := q1.2; simpa using this) q2 q3
  exact ⟨K0 + 100000000, (l0.map fun x => (⟨x.f0, x.f1, x.f2⟩ : S153)), ((l0.map fun x => (⟨x.f0, x.f1, x.f2⟩ : S153)) ++ List.replicate (room l0.length) (⟨(-7000000000000000101), (-7000000000000000101), (-7000000000000000101)⟩ : S153)), ((room l0.length : Nat) : Int), (l1.map fun x => (⟨x.f0, x.f1, x.f2, x.f3, x.f4⟩ : S158)), ((l1.map fun x => (⟨x.f0, x.f1, x.f2, x.f3, x.f4⟩ : S158)) ++ List.replicate (room l1.length) (⟨(-7000000000000000101), (-7000000000000000101), (-7000000000000000101), (-7000000000000000101), (-7000000000000000101)⟩ : S158)), ((room l1.length : Nat) : Int), r1, r2, full_toDemandS_eq l0 false (.inl rfl) n0 _ (by omega), (by rw [List.take_append_of_le_length (by simp), List.take_of_length_le (by simp)]), laws_toDemandS_bare l0 n0 _ (by omega), (by first | exact room_eq _ | (rw [List.length_map]; exact room_eq _)), (by have := room_le l0.length; rw [w64 (by (try simp only [List.length_map]); omega)]; simp), laws_eqDemandS_same _ (by have := room_le l0.length; simp; omega) _ (by have := room_le l0.length; simp; omega), full_toAreaS_eq l1 false (.inl rfl) n1 _ (by omega), (by rw [List.take_append_of_le_length (by simp), List.take_of_length_le (by simp)]), laws_toAreaS_bare l1 n1 _ (by omega), (by first | exact room_eq _ | (rw [List.length_map]; exact room_eq _)), (by have := room_le l1.length; rw [w64 (by (try simp only [List.length_map]); omega)]; simp), laws_eqAreaS_same _ (by have := room_le l1.length; simp; omega) _ (by have := room_le l1.length; simp; omega), (hag _ (by omega)).1, (hag _ (by omega)).2⟩
end Go.Proofs.Ytmahecjbejffoaa.FactsFnExactGreatestCalibre
