/- FactsFnExactWireAll of the law FnExactWireAll: taken over, declaration by declaration, as far as the law leans on it (the words and the printed functions are the kit's own print). No condition but what each says. -/
import Derived.Test.YtalcbcelalbhiaaZFnExactWireAllav
import Derived.Test.YtalcbcelalbhiaaZFnExactWireAllax
import Derived.Test.YtalcbcelalbhiaaZFnExactWireAllay
import Derived.Test.YtalcbcelalbhiaaZFnExactWireAllaz
import Derived.Test.YtalcbcelalbhiaaZFnExactWireAllba
import Derived.Test.YtalcbcelalbhiaaZFnExactWireAllbb
import Derived.Test.YtalcbcelalbhiaaZFnExactWireAllbc
import Derived.Test.YtalcbcelalbhiaaZFnExactWireAllbd
import Derived.Test.YtalcbcelalbhiaaZFnExactWireAllbe
import Derived.Test.YtalcbcelalbhiaaZFnExactWireAllbi
import Derived.Test.YtalcbcelalbhiaaZFnExactWireAllbh
namespace Go.Proofs.Ytalcbcelalbhiaa.FactsFnExactWireAll
open Go.RowKit Go.Proofs.Ytalcbcelalbhiaa.PFnExactWireAll Go.Proofs.YtalcbcelalbhiaaW.PrintWords Go.Proofs.YtalcbcelalbhiaaW.PrintLast Go.Proofs.Ytalcbcelalbhiaa.Opening
open Go.Proofs.Ytalcbcelalbhiaa.Pure (w64)
set_option linter.unusedVariables false
set_option linter.unusedSimpArgs false
def room (n : Nat) : Nat := if n % 6 = 5 then 0 else if n % 3 = 0 then 1 else n
theorem room_le (n : Nat) : room n ≤ n + 1 := by unfold room; split <;> (try split) <;> omega
theorem room_eq (n : Nat) : laws_roomBehind.f (n : Int) = some ((room n : Nat) : Int) := by
  unfold laws_roomBehind.f room
  rw [Int.tmod_eq_emod_of_nonneg (by omega), Int.tmod_eq_emod_of_nonneg (by omega)]
  by_cases h : n % 6 = 5
  · rw [if_pos (by omega), if_pos h]; rfl
  · rw [if_neg (by omega), if_neg h]
    by_cases h2 : n % 3 = 0
    · rw [if_pos (by omega), if_pos h2]; rfl
    · rw [if_neg (by omega), if_neg h2]
theorem set_mid {α : Type} (p : List α) (b v : α) (s : List α) : (p ++ b :: s).set ((p.length : Int)).toNat v = p ++ v :: s := by
  rw [Int.toNat_natCast, List.set_append_right _ _ (Nat.le_refl _)]
  simp
theorem getD_mid {α : Type} (z : α) (p : List α) (b : α) (s : List α) : (p ++ b :: s).getD ((p.length : Int)).toNat z = b := by
  rw [Int.toNat_natCast, List.getD_eq_getElem?_getD, List.getElem?_append_right (Nat.le_refl _)]
  simp
theorem full_toModuleS_l1 (l : List S100) : ∀ (j k : Nat) (pre : List S98), l.length ≤ pre.length → pre.length + j ≤ 4000000 → j < k → full_toModuleS.l1 k l (pre ++ List.replicate j z98) (pre.length : Int) = some (pre ++ List.replicate j (⟨(-7000000000000000101), (-7000000000000000101)⟩ : S98))
  | 0, k, pre, h1, h2, hk => by
    obtain ⟨k, rfl⟩ : ∃ m, k = m + 1 := ⟨k - 1, by omega⟩
    simp only [full_toModuleS.l1, List.replicate_zero, List.append_nil]
    rw [if_neg (by omega), if_pos (by omega), if_pos (by omega)]
  | j + 1, k, pre, h1, h2, hk => by
    obtain ⟨k, rfl⟩ : ∃ m, k = m + 1 := ⟨k - 1, by omega⟩
    have ih := full_toModuleS_l1 l j k (pre ++ [(⟨(-7000000000000000101), (-7000000000000000101)⟩ : S98)]) (by simp; omega) (by simp; omega) (by omega)
    simp only [full_toModuleS.l1]
    rw [if_pos (by simp; omega)]
    simp only [laws_fillerModule.f, Option.bind_some]
    rw [if_pos (by omega), w64 (by omega), List.replicate_succ, set_mid]
    have e1 : pre ++ (⟨(-7000000000000000101), (-7000000000000000101)⟩ : S98) :: List.replicate j z98 = (pre ++ [(⟨(-7000000000000000101), (-7000000000000000101)⟩ : S98)]) ++ List.replicate j z98 := by simp
    have e2 : (pre.length : Int) + 1 = ((pre ++ [(⟨(-7000000000000000101), (-7000000000000000101)⟩ : S98)]).length : Int) := by simp
    rw [e1, e2, ih]
    simp [List.replicate_succ]
theorem full_toModuleS_l0 (l : List S100) (R : Nat) (hl : l.length ≤ 1000000) (hR : R ≤ 1000001) : ∀ (s p : List S100) (k : Nat), l = p ++ s → s.length + R + 2 ≤ k → full_toModuleS.l0 k l ((p.map fun x => (⟨x.f0, x.f1⟩ : S98)) ++ List.replicate (s.length + R) z98) (p.length : Int) = some ((l.map fun x => (⟨x.f0, x.f1⟩ : S98)) ++ List.replicate R (⟨(-7000000000000000101), (-7000000000000000101)⟩ : S98))
  | [], p, k, h, hk => by
    obtain ⟨k, rfl⟩ : ∃ m, k = m + 1 := ⟨k - 1, by omega⟩
    have hp : l = p := by simpa using h
    subst hp
    simp only [full_toModuleS.l0]
    rw [if_neg (by omega)]
    have := full_toModuleS_l1 l R k (l.map fun x => (⟨x.f0, x.f1⟩ : S98)) (by simp) (by (try simp only [List.length_map]); omega) (by simp at hk; omega)
    simpa using this
  | a :: s, p, k, h, hk => by
    obtain ⟨k, rfl⟩ : ∃ m, k = m + 1 := ⟨k - 1, by omega⟩
    have hlen : l.length = p.length + (s.length + 1) := by rw [h]; simp
    have hget : rd_T100 l (p.length : Int) = a := by rw [h]; exact getD_mid _ p a s
    have ih := full_toModuleS_l0 l R hl hR s (p ++ [a]) k (by rw [h]; simp) (by simp at hk ⊢; omega)
    simp only [full_toModuleS.l0]
    rw [if_pos (by omega), if_pos (by omega), hget]
    simp only [laws_toModule.f, Option.bind_some]
    rw [if_pos (by simp; omega), w64 (by omega)]
    have e0 : (a :: s).length + R = (s.length + R) + 1 := by simp; omega
    have e1 : ((p.map fun x => (⟨x.f0, x.f1⟩ : S98)) ++ List.replicate ((a :: s).length + R) z98).set ((p.length : Int)).toNat (⟨a.f0, a.f1⟩ : S98) = ((p ++ [a]).map fun x => (⟨x.f0, x.f1⟩ : S98)) ++ List.replicate (s.length + R) z98 := by
      rw [e0, List.replicate_succ]
      have := set_mid (p.map fun x => (⟨x.f0, x.f1⟩ : S98)) z98 (⟨a.f0, a.f1⟩ : S98) (List.replicate (s.length + R) z98)
      (try simp only [List.length_map] at this)
      rw [this]
      simp
    have e2 : (p.length : Int) + 1 = ((p ++ [a]).length : Int) := by simp
    rw [e1, e2, ih]
theorem full_toModuleS_eq (l : List S100) (b : Bool) (hb : b = false ∨ l ≠ []) (hl : l.length ≤ 1000000) (k : Nat) (hk : 2 * l.length + 10 ≤ k) : full_toModuleS.f k l b = some ((l.map fun x => (⟨x.f0, x.f1⟩ : S98)) ++ List.replicate (room l.length) (⟨(-7000000000000000101), (-7000000000000000101)⟩ : S98)) := by
  obtain ⟨k, rfl⟩ : ∃ m, k = m + 1 := ⟨k - 1, by omega⟩
  have hr := room_le l.length
  have e : full_toModuleS.f (k + 1) l b = full_toModuleS.j0 (k + 1) l false := by
    unfold full_toModuleS.f
    cases b with
    | false => rfl
    | true =>
      have hn : l ≠ [] := by simpa using hb
      have : ((l.length : Int) == 0) = false := by
        cases l with
        | nil => exact absurd rfl hn
        | cons a s => simp; omega
      rw [if_pos rfl, this]
  rw [e]
  simp only [full_toModuleS.j0]
  rw [if_neg (by decide), room_eq, Option.bind_some, w64 (by omega), if_pos (by omega), if_pos (by omega)]
  have := full_toModuleS_l0 l (room l.length) hl (by omega) l [] k (by simp) (by omega)
  have e3 : ((l.length : Int) + (room l.length : Int)).toNat = l.length + room l.length := by omega
  rw [e3]
  simpa using this
theorem laws_toModuleS_l1 (l : List S100) : ∀ (j k : Nat) (pre : List S98), l.length ≤ pre.length → pre.length + j ≤ 4000000 → j < k → laws_toModuleS.l1 k l (pre ++ List.replicate j z98) (pre.length : Int) = some ((pre ++ List.replicate j (⟨(-7000000000000000101), (-7000000000000000101)⟩ : S98)).take l.length)
  | 0, k, pre, h1, h2, hk => by
    obtain ⟨k, rfl⟩ : ∃ m, k = m + 1 := ⟨k - 1, by omega⟩
    simp only [laws_toModuleS.l1, List.replicate_zero, List.append_nil]
    rw [if_neg (by omega), if_pos (by omega), if_pos (by omega)]
    rw [Int.toNat_natCast]
  | j + 1, k, pre, h1, h2, hk => by
    obtain ⟨k, rfl⟩ : ∃ m, k = m + 1 := ⟨k - 1, by omega⟩
    have ih := laws_toModuleS_l1 l j k (pre ++ [(⟨(-7000000000000000101), (-7000000000000000101)⟩ : S98)]) (by simp; omega) (by simp; omega) (by omega)
    simp only [laws_toModuleS.l1]
    rw [if_pos (by simp; omega)]
    simp only [laws_fillerModule.f, Option.bind_some]
    rw [if_pos (by omega), w64 (by omega), List.replicate_succ, set_mid]
    have e1 : pre ++ (⟨(-7000000000000000101), (-7000000000000000101)⟩ : S98) :: List.replicate j z98 = (pre ++ [(⟨(-7000000000000000101), (-7000000000000000101)⟩ : S98)]) ++ List.replicate j z98 := by simp
    have e2 : (pre.length : Int) + 1 = ((pre ++ [(⟨(-7000000000000000101), (-7000000000000000101)⟩ : S98)]).length : Int) := by simp
    rw [e1, e2, ih]
    simp [List.replicate_succ]
theorem laws_toModuleS_l0 (l : List S100) (R : Nat) (hl : l.length ≤ 1000000) (hR : R ≤ 1000001) : ∀ (s p : List S100) (k : Nat), l = p ++ s → s.length + R + 2 ≤ k → laws_toModuleS.l0 k l ((p.map fun x => (⟨x.f0, x.f1⟩ : S98)) ++ List.replicate (s.length + R) z98) (p.length : Int) = some (((l.map fun x => (⟨x.f0, x.f1⟩ : S98)) ++ List.replicate R (⟨(-7000000000000000101), (-7000000000000000101)⟩ : S98)).take l.length)
  | [], p, k, h, hk => by
    obtain ⟨k, rfl⟩ : ∃ m, k = m + 1 := ⟨k - 1, by omega⟩
    have hp : l = p := by simpa using h
    subst hp
    simp only [laws_toModuleS.l0]
    rw [if_neg (by omega)]
    have := laws_toModuleS_l1 l R k (l.map fun x => (⟨x.f0, x.f1⟩ : S98)) (by simp) (by (try simp only [List.length_map]); omega) (by simp at hk; omega)
    simpa using this
  | a :: s, p, k, h, hk => by
    obtain ⟨k, rfl⟩ : ∃ m, k = m + 1 := ⟨k - 1, by omega⟩
    have hlen : l.length = p.length + (s.length + 1) := by rw [h]; simp
    have hget : rd_T100 l (p.length : Int) = a := by rw [h]; exact getD_mid _ p a s
    have ih := laws_toModuleS_l0 l R hl hR s (p ++ [a]) k (by rw [h]; simp) (by simp at hk ⊢; omega)
    simp only [laws_toModuleS.l0]
    rw [if_pos (by omega), if_pos (by omega), hget]
    simp only [laws_toModule.f, Option.bind_some]
    rw [if_pos (by simp; omega), w64 (by omega)]
    have e0 : (a :: s).length + R = (s.length + R) + 1 := by simp; omega
    have e1 : ((p.map fun x => (⟨x.f0, x.f1⟩ : S98)) ++ List.replicate ((a :: s).length + R) z98).set ((p.length : Int)).toNat (⟨a.f0, a.f1⟩ : S98) = ((p ++ [a]).map fun x => (⟨x.f0, x.f1⟩ : S98)) ++ List.replicate (s.length + R) z98 := by
      rw [e0, List.replicate_succ]
      have := set_mid (p.map fun x => (⟨x.f0, x.f1⟩ : S98)) z98 (⟨a.f0, a.f1⟩ : S98) (List.replicate (s.length + R) z98)
      (try simp only [List.length_map] at this)
      rw [this]
      simp
    have e2 : (p.length : Int) + 1 = ((p ++ [a]).length : Int) := by simp
    rw [e1, e2, ih]
theorem laws_toModuleS_eq (l : List S100) (b : Bool) (hb : b = false ∨ l ≠ []) (hl : l.length ≤ 1000000) (k : Nat) (hk : 2 * l.length + 10 ≤ k) : laws_toModuleS.f k l b = some (((l.map fun x => (⟨x.f0, x.f1⟩ : S98)) ++ List.replicate (room l.length) (⟨(-7000000000000000101), (-7000000000000000101)⟩ : S98)).take l.length) := by
  obtain ⟨k, rfl⟩ : ∃ m, k = m + 1 := ⟨k - 1, by omega⟩
  have hr := room_le l.length
  have e : laws_toModuleS.f (k + 1) l b = laws_toModuleS.j0 (k + 1) l false := by
    unfold laws_toModuleS.f
    cases b with
    | false => rfl
    | true =>
      have hn : l ≠ [] := by simpa using hb
      have : ((l.length : Int) == 0) = false := by
        cases l with
        | nil => exact absurd rfl hn
        | cons a s => simp; omega
      rw [if_pos rfl, this]
  rw [e]
  simp only [laws_toModuleS.j0]
  rw [if_neg (by decide), room_eq, Option.bind_some, w64 (by omega), if_pos (by omega), if_pos (by omega)]
  have := laws_toModuleS_l0 l (room l.length) hl (by omega) l [] k (by simp) (by omega)
  have e3 : ((l.length : Int) + (room l.length : Int)).toNat = l.length + room l.length := by omega
  rw [e3]
  simpa using this
theorem laws_toModuleS_bare (l : List S100) (hl : l.length ≤ 1000000) (k : Nat) (hk : 2 * l.length + 10 ≤ k) : laws_toModuleS.f k l true = some (l.map fun x => (⟨x.f0, x.f1⟩ : S98)) := by
  cases l with
  | nil =>
    obtain ⟨k, rfl⟩ : ∃ m, k = m + 1 := ⟨k - 1, by omega⟩
    simp [laws_toModuleS.f, laws_toModuleS.j0]
  | cons a s =>
    rw [laws_toModuleS_eq (a :: s) true (.inr (by simp)) hl k hk]
    congr 1
    rw [List.take_append_of_le_length (by simp), List.take_of_length_le (by simp)]
theorem full_toWireS_l1 (l : List S105) : ∀ (j k : Nat) (pre : List S103), l.length ≤ pre.length → pre.length + j ≤ 4000000 → j < k → full_toWireS.l1 k l (pre ++ List.replicate j z103) (pre.length : Int) = some (pre ++ List.replicate j (⟨(-7000000000000000101), (-7000000000000000101), (-7000000000000000101)⟩ : S103))
  | 0, k, pre, h1, h2, hk => by
    obtain ⟨k, rfl⟩ : ∃ m, k = m + 1 := ⟨k - 1, by omega⟩
    simp only [full_toWireS.l1, List.replicate_zero, List.append_nil]
    rw [if_neg (by omega), if_pos (by omega), if_pos (by omega)]
  | j + 1, k, pre, h1, h2, hk => by
    obtain ⟨k, rfl⟩ : ∃ m, k = m + 1 := ⟨k - 1, by omega⟩
    have ih := full_toWireS_l1 l j k (pre ++ [(⟨(-7000000000000000101), (-7000000000000000101), (-7000000000000000101)⟩ : S103)]) (by simp; omega) (by simp; omega) (by omega)
    simp only [full_toWireS.l1]
    rw [if_pos (by simp; omega)]
    simp only [laws_fillerWire.f, Option.bind_some]
    rw [if_pos (by omega), w64 (by omega), List.replicate_succ, set_mid]
    have e1 : pre ++ (⟨(-7000000000000000101), (-7000000000000000101), (-7000000000000000101)⟩ : S103) :: List.replicate j z103 = (pre ++ [(⟨(-7000000000000000101), (-7000000000000000101), (-7000000000000000101)⟩ : S103)]) ++ List.replicate j z103 := by simp
    have e2 : (pre.length : Int) + 1 = ((pre ++ [(⟨(-7000000000000000101), (-7000000000000000101), (-7000000000000000101)⟩ : S103)]).length : Int) := by simp
    rw [e1, e2, ih]
    simp [List.replicate_succ]
theorem full_toWireS_l0 (l : List S105) (R : Nat) (hl : l.length ≤ 1000000) (hR : R ≤ 1000001) : ∀ (s p : List S105) (k : Nat), l = p ++ s → s.length + R + 2 ≤ k → full_toWireS.l0 k l ((p.map fun x => (⟨x.f0, x.f1, x.f2⟩ : S103)) ++ List.replicate (s.length + R) z103) (p.length : Int) = some ((l.map fun x => (⟨x.f0, x.f1, x.f2⟩ : S103)) ++ List.replicate R (⟨(-7000000000000000101), (-7000000000000000101), (-7000000000000000101)⟩ : S103))
  | [], p, k, h, hk => by
    obtain ⟨k, rfl⟩ : ∃ m, k = m + 1 := ⟨k - 1, by omega⟩
    have hp : l = p := by simpa using h
    subst hp
    simp only [full_toWireS.l0]
    rw [if_neg (by omega)]
    have := full_toWireS_l1 l R k (l.map fun x => (⟨x.f0, x.f1, x.f2⟩ : S103)) (by simp) (by (try simp only [List.length_map]); omega) (by simp at hk; omega)
    simpa using this
  | a :: s, p, k, h, hk => by
    obtain ⟨k, rfl⟩ : ∃ m, k = m + 1 := ⟨k - 1, by omega⟩
    have hlen : l.length = p.length + (s.length + 1) := by rw [h]; simp
    have hget : rd_T105 l (p.length : Int) = a := by rw [h]; exact getD_mid _ p a s
    have ih := full_toWireS_l0 l R hl hR s (p ++ [a]) k (by rw [h]; simp) (by simp at hk ⊢; omega)
    simp only [full_toWireS.l0]
    rw [if_pos (by omega), if_pos (by omega), hget]
    simp only [laws_toWire.f, Option.bind_some]
    rw [if_pos (by simp; omega), w64 (by omega)]
    have e0 : (a :: s).length + R = (s.length + R) + 1 := by simp; omega
    have e1 : ((p.map fun x => (⟨x.f0, x.f1, x.f2⟩ : S103)) ++ List.replicate ((a :: s).length + R) z103).set ((p.length : Int)).toNat (⟨a.f0, a.f1, a.f2⟩ : S103) = ((p ++ [a]).map fun x => (⟨x.f0, x.f1, x.f2⟩ : S103)) ++ List.replicate (s.length + R) z103 := by
      rw [e0, List.replicate_succ]
      have := set_mid (p.map fun x => (⟨x.f0, x.f1, x.f2⟩ : S103)) z103 (⟨a.f0, a.f1, a.f2⟩ : S103) (List.replicate (s.length + R) z103)
      (try simp only [List.length_map] at this)
      rw [this]
      simp
    have e2 : (p.length : Int) + 1 = ((p ++ [a]).length : Int) := by simp
    rw [e1, e2, ih]
theorem full_toWireS_eq (l : List S105) (b : Bool) (hb : b = false ∨ l ≠ []) (hl : l.length ≤ 1000000) (k : Nat) (hk : 2 * l.length + 10 ≤ k) : full_toWireS.f k l b = some ((l.map fun x => (⟨x.f0, x.f1, x.f2⟩ : S103)) ++ List.replicate (room l.length) (⟨(-7000000000000000101), (-7000000000000000101), (-7000000000000000101)⟩ : S103)) := by
  obtain ⟨k, rfl⟩ : ∃ m, k = m + 1 := ⟨k - 1, by omega⟩
  have hr := room_le l.length
  have e : full_toWireS.f (k + 1) l b = full_toWireS.j0 (k + 1) l false := by
    unfold full_toWireS.f
    cases b with
    | false => rfl
    | true =>
      have hn : l ≠ [] := by simpa using hb
      have : ((l.length : Int) == 0) = false := by
        cases l with
        | nil => exact absurd rfl hn
        | cons a s => simp; omega
      rw [if_pos rfl, this]
  rw [e]
  simp only [full_toWireS.j0]
  rw [if_neg (by decide), room_eq, Option.bind_some, w64 (by omega), if_pos (by omega), if_pos (by omega)]
  have := full_toWireS_l0 l (room l.length) hl (by omega) l [] k (by simp) (by omega)
  have e3 : ((l.length : Int) + (room l.length : Int)).toNat = l.length + room l.length := by omega
  rw [e3]
  simpa using this
theorem laws_toWireS_l1 (l : List S105) : ∀ (j k : Nat) (pre : List S103), l.length ≤ pre.length → pre.length + j ≤ 4000000 → j < k → laws_toWireS.l1 k l (pre ++ List.replicate j z103) (pre.length : Int) = some ((pre ++ List.replicate j (⟨(-7000000000000000101), (-7000000000000000101), (-7000000000000000101)⟩ : S103)).take l.length)
  | 0, k, pre, h1, h2, hk => by
    obtain ⟨k, rfl⟩ : ∃ m, k = m + 1 := ⟨k - 1, by omega⟩
    simp only [laws_toWireS.l1, List.replicate_zero, List.append_nil]
    rw [if_neg (by omega), if_pos (by omega), if_pos (by omega)]
    rw [Int.toNat_natCast]
  | j + 1, k, pre, h1, h2, hk => by
    obtain ⟨k, rfl⟩ : ∃ m, k = m + 1 := ⟨k - 1, by omega⟩
    have ih := laws_toWireS_l1 l j k (pre ++ [(⟨(-7000000000000000101), (-7000000000000000101), (-7000000000000000101)⟩ : S103)]) (by simp; omega) (by simp; omega) (by omega)
    simp only [laws_toWireS.l1]
    rw [if_pos (by simp; omega)]
    simp only [laws_fillerWire.f, Option.bind_some]
    rw [if_pos (by omega), w64 (by omega), List.replicate_succ, set_mid]
    have e1 : pre ++ (⟨(-7000000000000000101), (-7000000000000000101), (-7000000000000000101)⟩ : S103) :: List.replicate j z103 = (pre ++ [(⟨(-7000000000000000101), (-7000000000000000101), (-7000000000000000101)⟩ : S103)]) ++ List.replicate j z103 := by simp
    have e2 : (pre.length : Int) + 1 = ((pre ++ [(⟨(-7000000000000000101), (-7000000000000000101), (-7000000000000000101)⟩ : S103)]).length : Int) := by simp
    rw [e1, e2, ih]
    simp [List.replicate_succ]
theorem laws_toWireS_l0 (l : List S105) (R : Nat) (hl : l.length ≤ 1000000) (hR : R ≤ 1000001) : ∀ (s p : List S105) (k : Nat), l = p ++ s → s.length + R + 2 ≤ k → laws_toWireS.l0 k l ((p.map fun x => (⟨x.f0, x.f1, x.f2⟩ : S103)) ++ List.replicate (s.length + R) z103) (p.length : Int) = some (((l.map fun x => (⟨x.f0, x.f1, x.f2⟩ : S103)) ++ List.replicate R (⟨(-7000000000000000101), (-7000000000000000101), (-7000000000000000101)⟩ : S103)).take l.length)
  | [], p, k, h, hk => by
    obtain ⟨k, rfl⟩ : ∃ m, k = m + 1 := ⟨k - 1, by omega⟩
    have hp : l = p := by simpa using h
    subst hp
    simp only [laws_toWireS.l0]
    rw [if_neg (by omega)]
    have := laws_toWireS_l1 l R k (l.map fun x => (⟨x.f0, x.f1, x.f2⟩ : S103)) (by simp) (by (try simp only [List.length_map]); omega) (by simp at hk; omega)
    simpa using this
  | a :: s, p, k, h, hk => by
    obtain ⟨k, rfl⟩ : ∃ m, k = m + 1 := ⟨k - 1, by omega⟩
    have hlen : l.length = p.length + (s.length + 1) := by rw [h]; simp
    have hget : rd_T105 l (p.length : Int) = a := by rw [h]; exact getD_mid _ p a s
    have ih := laws_toWireS_l0 l R hl hR s (p ++ [a]) k (by rw [h]; simp) (by simp at hk ⊢; omega)
    simp only [laws_toWireS.l0]
    rw [if_pos (by omega), if_pos (by omega), hget]
    simp only [laws_toWire.f, Option.bind_some]
    rw [if_pos (by simp; omega), w64 (by omega)]
    have e0 : (a :: s).length + R = (s.length + R) + 1 := by simp; omega
    have e1 : ((p.map fun x => (⟨x.f0, x.f1, x.f2⟩ : S103)) ++ List.replicate ((a :: s).length + R) z103).set ((p.length : Int)).toNat (⟨a.f0, a.f1, a.f2⟩ : S103) = ((p ++ [a]).map fun x => (⟨x.f0, x.f1, x.f2⟩ : S103)) ++ List.replicate (s.length + R) z103 := by
      rw [e0, List.replicate_succ]
      have := set_mid (p.map fun x => (⟨x.f0, x.f1, x.f2⟩ : S103)) z103 (⟨a.f0, a.f1, a.f2⟩ : S103) (List.replicate (s.length + R) z103)
      (try simp only [List.length_map] at this)
      rw [this]
      simp
    have e2 : (p.length : Int) + 1 = ((p ++ [a]).length : Int) := by simp
    rw [e1, e2, ih]
theorem laws_toWireS_eq (l : List S105) (b : Bool) (hb : b = false ∨ l ≠ []) (hl : l.length ≤ 1000000) (k : Nat) (hk : 2 * l.length + 10 ≤ k) : laws_toWireS.f k l b = some (((l.map fun x => (⟨x.f0, x.f1, x.f2⟩ : S103)) ++ List.replicate (room l.length) (⟨(-7000000000000000101), (-7000000000000000101), (-7000000000000000101)⟩ : S103)).take l.length) := by
  obtain ⟨k, rfl⟩ : ∃ m, k = m + 1 := ⟨k - 1, by omega⟩
  have hr := room_le l.length
  have e : laws_toWireS.f (k + 1) l b = laws_toWireS.j0 (k + 1) l false := by
    unfold laws_toWireS.f
    cases b with
    | false => rfl
    | true =>
      have hn : l ≠ [] := by simpa using hb
      have : ((l.length : Int) == 0) = false := by
        cases l with
        | nil => exact absurd rfl hn
        | cons a s => simp; omega
      rw [if_pos rfl, this]
  rw [e]
  simp only [laws_toWireS.j0]
  rw [if_neg (by decide), room_eq, Option.bind_some, w64 (by omega), if_pos (by omega), if_pos (by omega)]
  have := laws_toWireS_l0 l (room l.length) hl (by omega) l [] k (by simp) (by omega)
  have e3 : ((l.length : Int) + (room l.length : Int)).toNat = l.length + room l.length := by omega
  rw [e3]
  simpa using this
theorem laws_toWireS_bare (l : List S105) (hl : l.length ≤ 1000000) (k : Nat) (hk : 2 * l.length + 10 ≤ k) : laws_toWireS.f k l true = some (l.map fun x => (⟨x.f0, x.f1, x.f2⟩ : S103)) := by
  cases l with
  | nil =>
    obtain ⟨k, rfl⟩ : ∃ m, k = m + 1 := ⟨k - 1, by omega⟩
    simp [laws_toWireS.f, laws_toWireS.j0]
  | cons a s =>
    rw [laws_toWireS_eq (a :: s) true (.inr (by simp)) hl k hk]
    congr 1
    rw [List.take_append_of_le_length (by simp), List.take_of_length_le (by simp)]
theorem laws_eqModuleS_l0 (l : List S98) (hl : l.length ≤ 1000000000) : ∀ (d k : Nat) (i : Int), 0 ≤ i → i + d = l.length → d < k → laws_eqModuleS.l0 k l l i = some true
  | 0, k, i, h0, h1, hk => by
    obtain ⟨k, rfl⟩ : ∃ m, k = m + 1 := ⟨k - 1, by omega⟩
    simp only [laws_eqModuleS.l0]
    rw [if_neg (by omega)]
  | d + 1, k, i, h0, h1, hk => by
    obtain ⟨k, rfl⟩ : ∃ m, k = m + 1 := ⟨k - 1, by omega⟩
    simp only [laws_eqModuleS.l0]
    rw [if_pos (by omega), if_pos (by omega), if_pos (by omega)]
    have e0 : laws_eqModule.f (rd_T98 l i).f0 (rd_T98 l i).f1 (rd_T98 l i).f0 (rd_T98 l i).f1 = some true := by unfold laws_eqModule.f; simp
    rw [e0, Option.bind_some]
    first | rw [if_pos trivial] | rw [if_pos rfl]
    rw [w64 (by omega)]
    exact laws_eqModuleS_l0 l hl d k (i + 1) (by omega) (by omega) (by omega)
theorem laws_eqModuleS_same (l : List S98) (hl : l.length ≤ 1000000000) (k : Nat) (hk : l.length < k) : laws_eqModuleS.f k l l = some true := by
  unfold laws_eqModuleS.f
  rw [if_pos rfl]
  exact laws_eqModuleS_l0 l hl l.length k 0 (by omega) (by omega) hk
theorem laws_eqWireS_l0 (l : List S103) (hl : l.length ≤ 1000000000) : ∀ (d k : Nat) (i : Int), 0 ≤ i → i + d = l.length → d < k → laws_eqWireS.l0 k l l i = some true
  | 0, k, i, h0, h1, hk => by
    obtain ⟨k, rfl⟩ : ∃ m, k = m + 1 := ⟨k - 1, by omega⟩
    simp only [laws_eqWireS.l0]
    rw [if_neg (by omega)]
  | d + 1, k, i, h0, h1, hk => by
    obtain ⟨k, rfl⟩ : ∃ m, k = m + 1 := ⟨k - 1, by omega⟩
    simp only [laws_eqWireS.l0]
    rw [if_pos (by omega), if_pos (by omega), if_pos (by omega)]
    have e0 : laws_eqWire.f (rd_T103 l i).f0 (rd_T103 l i).f1 (rd_T103 l i).f2 (rd_T103 l i).f0 (rd_T103 l i).f1 (rd_T103 l i).f2 = some true := by unfold laws_eqWire.f; simp
    rw [e0, Option.bind_some]
    first | rw [if_pos trivial] | rw [if_pos rfl]
    rw [w64 (by omega)]
    exact laws_eqWireS_l0 l hl d k (i + 1) (by omega) (by omega) (by omega)
theorem laws_eqWireS_same (l : List S103) (hl : l.length ≤ 1000000000) (k : Nat) (hk : l.length < k) : laws_eqWireS.f k l l = some true := by
  unfold laws_eqWireS.f
  rw [if_pos rfl]
  exact laws_eqWireS_l0 l hl l.length k 0 (by omega) (by omega) hk
/-- The numbers from a on, field by field. -/
def marksModule : Nat → Int → List S98
  | 0, _ => []
  | n + 1, a => (⟨a, a + 1⟩ : S98) :: marksModule n (a + 2)
theorem rd_midModule (p : List S98) (b : S98) (s : List S98) : rd_T98 (p ++ b :: s) (p.length : Int) = b := getD_mid _ p b s
theorem laws_markModuleS_l0 : ∀ (s p : List S98) (k : Nat) (a : Int), 0 ≤ a → a + 2 * s.length ≤ 1000000000 → p.length + s.length ≤ 1000000000 → s.length < k → laws_markModuleS.l0 k (p ++ s) a (p.length : Int) = some (a + 2 * s.length, p ++ marksModule s.length a)
  | [], p, k, a, h0, h1, h2, hk => by
    obtain ⟨k, rfl⟩ : ∃ m, k = m + 1 := ⟨k - 1, by simp at hk; omega⟩
    simp only [laws_markModuleS.l0]
    rw [if_neg (by simp)]
    simp [marksModule]
  | b :: s, p, k, a, h0, h1, h2, hk => by
    obtain ⟨k, rfl⟩ : ∃ m, k = m + 1 := ⟨k - 1, by simp at hk; omega⟩
    simp only [List.length_cons] at h1 h2 hk
    have ih := laws_markModuleS_l0 s (p ++ [(⟨a, a + 1⟩ : S98)]) k (a + 2) (by omega) (by omega) (by simp; omega) (by omega)
    simp only [laws_markModuleS.l0]
    rw [if_pos (by simp; omega), if_pos (by omega)]
    simp only [Option.bind_some, set_mid, rd_midModule]
    have w1 : wrap64 (a + 1) = a + 1 := by rw [w64 (by omega)] <;> omega
    have w2 : wrap64 (a + 1 + 1) = a + 2 := by rw [w64 (by omega)] <;> omega
    simp only [w1, w2]
    have e1 : p ++ (⟨a, a + 1⟩ : S98) :: s = (p ++ [(⟨a, a + 1⟩ : S98)]) ++ s := by simp
    have e2 : (p.length : Int) + 1 = ((p ++ [(⟨a, a + 1⟩ : S98)]).length : Int) := by simp
    rw [w64 (n := (p.length : Int) + 1) (by omega), e1, e2, ih]
    have e3 : a + 2 + 2 * (s.length : Int) = a + 2 * ((s.length + 1 : Nat) : Int) := by omega
    rw [e3]
    simp [marksModule]
theorem laws_markModuleS_eq (l : List S98) (a : Int) (h0 : 0 ≤ a) (h1 : a + 2 * l.length ≤ 1000000000) (h2 : l.length ≤ 1000000000) (k : Nat) (hk : l.length < k) : laws_markModuleS.f k l a = some (a + 2 * l.length, marksModule l.length a) := by
  unfold laws_markModuleS.f
  have := laws_markModuleS_l0 l [] k a h0 h1 (by simpa using h2) hk
  simpa using this
/-- The numbers from a on, field by field. -/
def marksWire : Nat → Int → List S103
  | 0, _ => []
  | n + 1, a => (⟨a, a + 1, a + 2⟩ : S103) :: marksWire n (a + 3)
theorem marksWire_length : ∀ (n : Nat) (a : Int), (marksWire n a).length = n
  | 0, _ => rfl
  | n + 1, a => by simp [marksWire, marksWire_length n]
theorem rd_midWire (p : List S103) (b : S103) (s : List S103) : rd_T103 (p ++ b :: s) (p.length : Int) = b := getD_mid _ p b s
theorem laws_markWireS_l0 : ∀ (s p : List S103) (k : Nat) (a : Int), 0 ≤ a → a + 3 * s.length ≤ 1000000000 → p.length + s.length ≤ 1000000000 → s.length < k → laws_markWireS.l0 k (p ++ s) a (p.length : Int) = some (a + 3 * s.length, p ++ marksWire s.length a)
  | [], p, k, a, h0, h1, h2, hk => by
    obtain ⟨k, rfl⟩ : ∃ m, k = m + 1 := ⟨k - 1, by simp at hk; omega⟩
    simp only [laws_markWireS.l0]
    rw [if_neg (by simp)]
    simp [marksWire]
  | b :: s, p, k, a, h0, h1, h2, hk => by
    obtain ⟨k, rfl⟩ : ∃ m, k = m + 1 := ⟨k - 1, by simp at hk; omega⟩
    simp only [List.length_cons] at h1 h2 hk
    have ih := laws_markWireS_l0 s (p ++ [(⟨a, a + 1, a + 2⟩ : S103)]) k (a + 3) (by omega) (by omega) (by simp; omega) (by omega)
    simp only [laws_markWireS.l0]
    rw [if_pos (by simp; omega), if_pos (by omega)]
    simp only [Option.bind_some, set_mid, rd_midWire]
    have w1 : wrap64 (a + 1) = a + 1 := by rw [w64 (by omega)] <;> omega
    have w2 : wrap64 (a + 1 + 1) = a + 2 := by rw [w64 (by omega)] <;> omega
    have w3 : wrap64 (a + 2 + 1) = a + 3 := by rw [w64 (by omega)] <;> omega
    simp only [w1, w2, w3]
    have e1 : p ++ (⟨a, a + 1, a + 2⟩ : S103) :: s = (p ++ [(⟨a, a + 1, a + 2⟩ : S103)]) ++ s := by simp
    have e2 : (p.length : Int) + 1 = ((p ++ [(⟨a, a + 1, a + 2⟩ : S103)]).length : Int) := by simp
    rw [w64 (n := (p.length : Int) + 1) (by omega), e1, e2, ih]
    have e3 : a + 3 + 3 * (s.length : Int) = a + 3 * ((s.length + 1 : Nat) : Int) := by omega
    rw [e3]
    simp [marksWire]
theorem laws_markWireS_eq (l : List S103) (a : Int) (h0 : 0 ≤ a) (h1 : a + 3 * l.length ≤ 1000000000) (h2 : l.length ≤ 1000000000) (k : Nat) (hk : l.length < k) : laws_markWireS.f k l a = some (a + 3 * l.length, marksWire l.length a) := by
  unfold laws_markWireS.f
  have := laws_markWireS_l0 l [] k a h0 h1 (by simpa using h2) hk
  simpa using this
theorem laws_heldWireS_l0 : ∀ (m : Nat) (p : List S103) (k : Nat) (a : Int), 0 ≤ a → a + 3 * m ≤ 1000000000 → p.length + m ≤ 1000000000 → m < k → laws_heldWireS.l0 k (p ++ marksWire m a) a (p.length : Int) = some (a + 3 * m)
  | 0, p, k, a, h0, h1, h2, hk => by
    obtain ⟨k, rfl⟩ : ∃ m, k = m + 1 := ⟨k - 1, by omega⟩
    simp only [laws_heldWireS.l0]
    rw [if_neg (by simp [marksWire])]
    simp
  | m + 1, p, k, a, h0, h1, h2, hk => by
    obtain ⟨k, rfl⟩ : ∃ m, k = m + 1 := ⟨k - 1, by omega⟩
    have ih := laws_heldWireS_l0 m (p ++ [(⟨a, a + 1, a + 2⟩ : S103)]) k (a + 3) (by omega) (by omega) (by simp; omega) (by omega)
    rw [show p ++ marksWire (m + 1) a = p ++ (⟨a, a + 1, a + 2⟩ : S103) :: marksWire m (a + 3) from rfl]
    simp only [laws_heldWireS.l0]
    rw [if_pos (by simp; omega), if_pos (by omega)]
    simp only [rd_midWire]
    have w1 : wrap64 (a + 1) = a + 1 := by rw [w64 (by omega)] <;> omega
    have w2 : wrap64 (a + 1 + 1) = a + 2 := by rw [w64 (by omega)] <;> omega
    have w3 : wrap64 (a + 2 + 1) = a + 3 := by rw [w64 (by omega)] <;> omega
    simp only [w1, w2, w3]
    have e1 : p ++ (⟨a, a + 1, a + 2⟩ : S103) :: marksWire m (a + 3) = (p ++ [(⟨a, a + 1, a + 2⟩ : S103)]) ++ marksWire m (a + 3) := by simp
    have e2 : (p.length : Int) + 1 = ((p ++ [(⟨a, a + 1, a + 2⟩ : S103)]).length : Int) := by simp
    rw [w64 (n := (p.length : Int) + 1) (by omega), e1, e2]
    simp only [if_true]
    rw [ih]
    congr 1
    omega
theorem laws_heldWireS_eq (m : Nat) (a : Int) (h0 : 0 ≤ a) (h1 : a + 3 * m ≤ 1000000000) (h2 : m ≤ 1000000000) (k : Nat) (hk : m < k) : laws_heldWireS.f k (marksWire m a) a = some (a + 3 * m) := by
  unfold laws_heldWireS.f
  have := laws_heldWireS_l0 m [] k a h0 h1 (by simpa using h2) hk
  simpa using this
theorem laws_szModuleS_le {l : List (S100)} {a s : Int} (h : laws_szModuleS.f l a = some s) (hg : ¬ s < 0) (hl : l.length ≤ 140737488351232) (ha : -1000000000000000 ≤ a ∧ a ≤ 1000000) : (l.length : Int) ≤ a ∧ 0 ≤ s ∧ s ≤ 1000000 := by
  unfold laws_szModuleS.f at h
  rw [w64 (by omega)] at h
  split at h
  · injection h; omega
  · injection h; omega
theorem laws_szModuleS_some (l : List (S100)) (a : Int) : ∃ s, laws_szModuleS.f l a = some s := by
  unfold laws_szModuleS.f
  split
  · exact ⟨_, rfl⟩
  · exact ⟨_, rfl⟩
theorem laws_szWireS_le {l : List (S105)} {a s : Int} (h : laws_szWireS.f l a = some s) (hg : ¬ s < 0) (hl : l.length ≤ 140737488351232) (ha : -1000000000000000 ≤ a ∧ a ≤ 1000000) : (l.length : Int) ≤ a ∧ 0 ≤ s ∧ s ≤ 1000000 := by
  unfold laws_szWireS.f at h
  rw [w64 (by omega)] at h
  split at h
  · injection h; omega
  · injection h; omega
theorem laws_szWireS_some (l : List (S105)) (a : Int) : ∃ s, laws_szWireS.f l a = some s := by
  unfold laws_szWireS.f
  split
  · exact ⟨_, rfl⟩
  · exact ⟨_, rfl⟩
theorem facts (l0 : (List S100)) (a1 : Int) (l2 : (List S105)) (q0 : (l0.length * 16 ≤ 140737488351232 ∧ ∀ x ∈ l0, (I64 x.f0 ∧ I64 x.f1))) (q1 : I64 a1) (q2 : (l2.length * 24 ≤ 140737488351232 ∧ ∀ x ∈ l2, (I64 x.f0 ∧ I64 x.f1 ∧ I64 x.f2))) (t359 : Int) (z0 : laws_szModuleS.f l0 1000000 = some t359) (g0 : ¬ t359 < 0) (t360 : Int) (z1 : laws_szWireS.f l2 t359 = some t360) (g1 : ¬ t360 < 0) :
    ∃ (k : Nat) (m0 f0 : List S98) (t0 : Int) (m2 f2 : List S103) (t2 : Int) (kk0 : Int) (mm0 : List S98) (kk2 : Int) (mm2 : List S103) (r1 : List (S103)) (r2 : Int) (kr : Int) (rr : List S103), full_toModuleS.f k l0 false = some f0 ∧ f0.take l0.length = m0 ∧ laws_toModuleS.f k l0 true = some m0 ∧ laws_roomBehind.f (m0.length : Int) = some t0 ∧ wrap64 ((m0.length : Int) + t0) = (f0.length : Int) ∧ laws_eqModuleS.f k f0 f0 = some true ∧ full_toWireS.f k l2 false = some f2 ∧ f2.take l2.length = m2 ∧ laws_toWireS.f k l2 true = some m2 ∧ laws_roomBehind.f (m2.length : Int) = some t2 ∧ wrap64 ((m2.length : Int) + t2) = (f2.length : Int) ∧ laws_eqWireS.f k f2 f2 = some true ∧ laws_markModuleS.f k m0 101 = some (kk0, mm0) ∧ laws_markWireS.f k m2 kk0 = some (kk2, mm2) ∧ ¬ kk2 < 0 ∧ spec_WireAll.f k m0 a1 m2 = some (r1, r2) ∧ impl_WireAll.f k m0 a1 m2 = some (r1, r2) ∧ laws_eqWireS.f k r1 r1 = some true ∧ laws_markWireS.f k r1 101 = some (kr, rr) ∧ r1.length = rr.length ∧ laws_heldWireS.f k rr 101 = some kr ∧ ¬ kr < 0 := by
  have b0 : l0.length ≤ 140737488351232 := by have := q0.1; omega
  have b2 : l2.length ≤ 140737488351232 := by have := q2.1; omega
  have c0 := laws_szModuleS_le z0 g0 b0 (by omega)
  have c1 := laws_szWireS_le z1 g1 b2 (by omega)
  have n0 : l0.length ≤ 1000000 := by omega
  have n2 : l2.length ≤ 1000000 := by omega
  obtain ⟨K0, r1, r2, hrl, hag⟩ := Pure.agree_WireAll (l0.map fun x => (⟨x.f0, x.f1⟩ : S98)) a1 (l2.map fun x => (⟨x.f0, x.f1, x.f2⟩ : S103)) (by simpa using n0) (by have := q0.2; simpa using this) q1 (by simpa using n2) (by have := q2.2; simpa using this)
  have hrl' := hrl
  exact ⟨K0 + 100000000, (l0.map fun x => (⟨x.f0, x.f1⟩ : S98)), ((l0.map fun x => (⟨x.f0, x.f1⟩ : S98)) ++ List.replicate (room l0.length) (⟨(-7000000000000000101), (-7000000000000000101)⟩ : S98)), ((room l0.length : Nat) : Int), (l2.map fun x => (⟨x.f0, x.f1, x.f2⟩ : S103)), ((l2.map fun x => (⟨x.f0, x.f1, x.f2⟩ : S103)) ++ List.replicate (room l2.length) (⟨(-7000000000000000101), (-7000000000000000101), (-7000000000000000101)⟩ : S103)), ((room l2.length : Nat) : Int), (101 + 2 * ((l0.map fun x => (⟨x.f0, x.f1⟩ : S98)).length : Int)), (marksModule (l0.map fun x => (⟨x.f0, x.f1⟩ : S98)).length 101), ((101 + 2 * ((l0.map fun x => (⟨x.f0, x.f1⟩ : S98)).length : Int)) + 3 * ((l2.map fun x => (⟨x.f0, x.f1, x.f2⟩ : S103)).length : Int)), (marksWire (l2.map fun x => (⟨x.f0, x.f1, x.f2⟩ : S103)).length (101 + 2 * ((l0.map fun x => (⟨x.f0, x.f1⟩ : S98)).length : Int))), r1, r2, (101 + 3 * (r1.length : Int)), (marksWire r1.length 101), full_toModuleS_eq l0 false (.inl rfl) n0 _ (by omega), (by rw [List.take_append_of_le_length (by simp), List.take_of_length_le (by simp)]), laws_toModuleS_bare l0 n0 _ (by omega), (by first | exact room_eq _ | (rw [List.length_map]; exact room_eq _)), (by have := room_le l0.length; rw [w64 (by (try simp only [List.length_map]); omega)]; simp), laws_eqModuleS_same _ (by have := room_le l0.length; simp; omega) _ (by have := room_le l0.length; simp; omega), full_toWireS_eq l2 false (.inl rfl) n2 _ (by omega), (by rw [List.take_append_of_le_length (by simp), List.take_of_length_le (by simp)]), laws_toWireS_bare l2 n2 _ (by omega), (by first | exact room_eq _ | (rw [List.length_map]; exact room_eq _)), (by have := room_le l2.length; rw [w64 (by (try simp only [List.length_map]); omega)]; simp), laws_eqWireS_same _ (by have := room_le l2.length; simp; omega) _ (by have := room_le l2.length; simp; omega), laws_markModuleS_eq _ _ (by (try simp only [List.length_map]); omega) (by (try simp only [List.length_map]); omega) (by (try simp only [List.length_map]); omega) _ (by (try simp only [List.length_map]); omega), laws_markWireS_eq _ _ (by (try simp only [List.length_map]); omega) (by (try simp only [List.length_map]); omega) (by (try simp only [List.length_map]); omega) _ (by (try simp only [List.length_map]); omega), (by (try simp only [List.length_map]); omega), (hag _ (by omega)).1, (hag _ (by omega)).2, laws_eqWireS_same _ (by omega) _ (by omega), laws_markWireS_eq _ _ (by omega) (by omega) (by omega) _ (by omega), (marksWire_length _ _).symm, laws_heldWireS_eq _ _ (by omega) (by omega) (by omega) _ (by omega), (by omega)⟩
end Go.Proofs.Ytalcbcelalbhiaa.FactsFnExactWireAll
