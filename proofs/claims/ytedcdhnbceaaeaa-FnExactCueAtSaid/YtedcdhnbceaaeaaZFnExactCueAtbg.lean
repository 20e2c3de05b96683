/- FactsFnExactCueAt of the law FnExactCueAt: taken over, declaration by declaration, as far as the law leans on it (the words and the printed functions are the kit's own print). No condition but what each says. -/
import Derived.Test.YtedcdhnbceaaeaaZFnExactCueAtav
import Derived.Test.YtedcdhnbceaaeaaZFnExactCueAtaw
import Derived.Test.YtedcdhnbceaaeaaZFnExactCueAtax
import Derived.Test.YtedcdhnbceaaeaaZFnExactCueAtay
import Derived.Test.YtedcdhnbceaaeaaZFnExactCueAtaz
import Derived.Test.YtedcdhnbceaaeaaZFnExactCueAtba
import Derived.Test.YtedcdhnbceaaeaaZFnExactCueAtbb
import Derived.Test.YtedcdhnbceaaeaaZFnExactCueAtbf
import Derived.Test.YtedcdhnbceaaeaaZFnExactCueAtbe
namespace Go.Proofs.Ytedcdhnbceaaeaa.FactsFnExactCueAt
open Go.RowKit Go.Proofs.Ytedcdhnbceaaeaa.PFnExactCueAt Go.Proofs.YtedcdhnbceaaeaaW.PrintWords Go.Proofs.YtedcdhnbceaaeaaW.PrintLast Go.Proofs.Ytedcdhnbceaaeaa.Opening
open Go.Proofs.Ytedcdhnbceaaeaa.Pure (w64)
set_option linter.unusedVariables false
set_option linter.unusedSimpArgs false
def room (n : Nat) : Nat := if n % 6 = 5 then 0 else if n % 3 = 0 then 1 else n
theorem room_le (n : Nat) : room n ≤ n + 1 := by unfold room; split <;> (try split) <;> omega
theorem room_eq (n : Nat) : laws_roomBehind.f (n : Int) = some ((room n : Nat) : Int) := by
  unfold laws_roomBehind.f room
  rw [Int.tmod_eq_emod_of_nonneg (by omega), Int.tmod_eq_emod_of_nonneg (by omega)]
  by_cases h : n % 6 = 5
  · rw [if_pos (by omega), if_pos h]; rfl
  · rw [if_neg (by omega), if_neg h]
    by_cases h2 : n % 3 = 0
    · rw [if_pos (by omega), if_pos h2]; rfl
    · rw [if_neg (by omega), if_neg h2]
theorem set_mid {α : Type} (p : List α) (b v : α) (s : List α) : (p ++ b :: s).set ((p.length : Int)).toNat v = p ++ v :: s := by
  rw [Int.toNat_natCast, List.set_append_right _ _ (Nat.le_refl _)]
  simp
theorem getD_mid {α : Type} (z : α) (p : List α) (b : α) (s : List α) : (p ++ b :: s).getD ((p.length : Int)).toNat z = b := by
  rw [Int.toNat_natCast, List.getD_eq_getElem?_getD, List.getElem?_append_right (Nat.le_refl _)]
  simp
theorem full_toModuleS_l1 (l : List S202) : ∀ (j k : Nat) (pre : List S200), l.length ≤ pre.length → pre.length + j ≤ 4000000 → j < k → full_toModuleS.l1 k l (pre ++ List.replicate j z200) (pre.length : Int) = some (pre ++ List.replicate j (⟨(-7000000000000000101), (-7000000000000000101)⟩ : S200))
  | 0, k, pre, h1, h2, hk => by
    obtain ⟨k, rfl⟩ : ∃ m, k = m + 1 := ⟨k - 1, by omega⟩
    simp only [full_toModuleS.l1, List.replicate_zero, List.append_nil]
    rw [if_neg (by omega), if_pos (by omega), if_pos (by omega)]
  | j + 1, k, pre, h1, h2, hk => by
    obtain ⟨k, rfl⟩ : ∃ m, k = m + 1 := ⟨k - 1, by omega⟩
    have ih := full_toModuleS_l1 l j k (pre ++ [(⟨(-7000000000000000101), (-7000000000000000101)⟩ : S200)]) (by simp; omega) (by simp; omega) (by omega)
    simp only [full_toModuleS.l1]
    rw [if_pos (by simp; omega)]
    simp only [laws_fillerModule.f, Option.bind_some]
    rw [if_pos (by omega), w64 (by omega), List.replicate_succ, set_mid]
    have e1 : pre ++ (⟨(-7000000000000000101), (-7000000000000000101)⟩ : S200) :: List.replicate j z200 = (pre ++ [(⟨(-7000000000000000101), (-7000000000000000101)⟩ : S200)]) ++ List.replicate j z200 := by simp
    have e2 : (pre.length : Int) + 1 = ((pre ++ [(⟨(-7000000000000000101), (-7000000000000000101)⟩ : S200)]).length : Int) := by simp
    rw [e1, e2, ih]
    simp [List.replicate_succ]
theorem full_toModuleS_l0 (l : List S202) (R : Nat) (hl : l.length ≤ 1000000) (hR : R ≤ 1000001) : ∀ (s p : List S202) (k : Nat), l = p ++ s → s.length + R + 2 ≤ k → full_toModuleS.l0 k l ((p.map fun x => (⟨x.f0, x.f1⟩ : S200)) ++ List.replicate (s.length + R) z200) (p.length : Int) = some ((l.map fun x => (⟨x.f0, x.f1⟩ : S200)) ++ List.replicate R (⟨(-7000000000000000101), (-7000000000000000101)⟩ : S200))
  | [], p, k, h, hk => by
    obtain ⟨k, rfl⟩ : ∃ m, k = m + 1 := ⟨k - 1, by omega⟩
    have hp : l = p := by simpa using h
    subst hp
    simp only [full_toModuleS.l0]
    rw [if_neg (by omega)]
    have := full_toModuleS_l1 l R k (l.map fun x => (⟨x.f0, x.f1⟩ : S200)) (by simp) (by (try simp only [List.length_map]); omega) (by simp at hk; omega)
    simpa using this
  | a :: s, p, k, h, hk => by
    obtain ⟨k, rfl⟩ : ∃ m, k = m + 1 := ⟨k - 1, by omega⟩
    have hlen : l.length = p.length + (s.length + 1) := by rw [h]; simp
    have hget : rd_T202 l (p.length : Int) = a := by rw [h]; exact getD_mid _ p a s
    have ih := full_toModuleS_l0 l R hl hR s (p ++ [a]) k (by rw [h]; simp) (by simp at hk ⊢; omega)
    simp only [full_toModuleS.l0]
    rw [if_pos (by omega), if_pos (by omega), hget]
    simp only [laws_toModule.f, Option.bind_some]
    rw [if_pos (by simp; omega), w64 (by omega)]
    have e0 : (a :: s).length + R = (s.length + R) + 1 := by simp; omega
    have e1 : ((p.map fun x => (⟨x.f0, x.f1⟩ : S200)) ++ List.replicate ((a :: s).length + R) z200).set ((p.length : Int)).toNat (⟨a.f0, a.f1⟩ : S200) = ((p ++ [a]).map fun x => (⟨x.f0, x.f1⟩ : S200)) ++ List.replicate (s.length + R) z200 := by
      rw [e0, List.replicate_succ]
      have := set_mid (p.map fun x => (⟨x.f0, x.f1⟩ : S200)) z200 (⟨a.f0, a.f1⟩ : S200) (List.replicate (s.length + R) z200)
      (try simp only [List.length_map] at this)
      rw [this]
      simp
    have e2 : (p.length : Int) + 1 = ((p ++ [a]).length : Int) := by simp
    rw [e1, e2, ih]
theorem full_toModuleS_eq (l : List S202) (b : Bool) (hb : b = false ∨ l ≠ []) (hl : l.length ≤ 1000000) (k : Nat) (hk : 2 * l.length + 10 ≤ k) : full_toModuleS.f k l b = some ((l.map fun x => (⟨x.f0, x.f1⟩ : S200)) ++ List.replicate (room l.length) (⟨(-7000000000000000101), (-7000000000000000101)⟩ : S200)) := by
  obtain ⟨k, rfl⟩ : ∃ m, k = m + 1 := ⟨k - 1, by omega⟩
  have hr := room_le l.length
  have e : full_toModuleS.f (k + 1) l b = full_toModuleS.j0 (k + 1) l false := by
    unfold full_toModuleS.f
    cases b with
    | false => rfl
    | true =>
      have hn : l ≠ [] := by simpa using hb
      have : ((l.length : Int) == 0) = false := by
        cases l with
        | nil => exact absurd rfl hn
        | cons a s => simp; omega
      rw [if_pos rfl, this]
  rw [e]
  simp only [full_toModuleS.j0]
  rw [if_neg (by decide), room_eq, Option.bind_some, w64 (by omega), if_pos (by omega), if_pos (by omega)]
  have := full_toModuleS_l0 l (room l.length) hl (by omega) l [] k (by simp) (by omega)
  have e3 : ((l.length : Int) + (room l.length : Int)).toNat = l.length + room l.length := by omega
  rw [e3]
  simpa using this
theorem laws_toModuleS_l1 (l : List S202) : ∀ (j k : Nat) (pre : List S200), l.length ≤ pre.length → pre.length + j ≤ 4000000 → j < k → laws_toModuleS.l1 k l (pre ++ List.replicate j z200) (pre.length : Int) = some ((pre ++ List.replicate j (⟨(-7000000000000000101), (-7000000000000000101)⟩ : S200)).take l.length)
  | 0, k, pre, h1, h2, hk => by
    obtain ⟨k, rfl⟩ : ∃ m, k = m + 1 := ⟨k - 1, by omega⟩
    simp only [laws_toModuleS.l1, List.replicate_zero, List.append_nil]
    rw [if_neg (by omega), if_pos (by omega), if_pos (by omega)]
    rw [Int.toNat_natCast]
  | j + 1, k, pre, h1, h2, hk => by
    obtain ⟨k, rfl⟩ : ∃ m, k = m + 1 := ⟨k - 1, by omega⟩
    have ih := laws_toModuleS_l1 l j k (pre ++ [(⟨(-7000000000000000101), (-7000000000000000101)⟩ : S200)]) (by simp; omega) (by simp; omega) (by omega)
    simp only [laws_toModuleS.l1]
    rw [if_pos (by simp; omega)]
    simp only [laws_fillerModule.f, Option.bind_some]
    rw [if_pos (by omega), w64 (by omega), List.replicate_succ, set_mid]
    have e1 : pre ++ (⟨(-7000000000000000101), (-7000000000000000101)⟩ : S200) :: List.replicate j z200 = (pre ++ [(⟨(-7000000000000000101), (-7000000000000000101)⟩ : S200)]) ++ List.replicate j z200 := by simp
    have e2 : (pre.length : Int) + 1 = ((pre ++ [(⟨(-7000000000000000101), (-7000000000000000101)⟩ : S200)]).length : Int) := by simp
    rw [e1, e2, ih]
    simp [List.replicate_succ]
theorem laws_toModuleS_l0 (l : List S202) (R : Nat) (hl : l.length ≤ 1000000) (hR : R ≤ 1000001) : ∀ (s p : List S202) (k : Nat), l = p ++ s → s.length + R + 2 ≤ k → laws_toModuleS.l0 k l ((p.map fun x => (⟨x.f0, x.f1⟩ : S200)) ++ List.replicate (s.length + R) z200) (p.length : Int) = some (((l.map fun x => (⟨x.f0, x.f1⟩ : S200)) ++ List.replicate R (⟨(-7000000000000000101), (-7000000000000000101)⟩ : S200)).take l.length)
  | [], p, k, h, hk => by
    obtain ⟨k, rfl⟩ : ∃ m, k = m + 1 := ⟨k - 1, by omega⟩
    have hp : l = p := by simpa using h
    subst hp
    simp only [laws_toModuleS.l0]
    rw [if_neg (by omega)]
    have := laws_toModuleS_l1 l R k (l.map fun x => (⟨x.f0, x.f1⟩ : S200)) (by simp) (by (try simp only [List.length_map]); omega) (by simp at hk; omega)
    simpa using this
  | a :: s, p, k, h, hk => by
    obtain ⟨k, rfl⟩ : ∃ m, k = m + 1 := ⟨k - 1, by omega⟩
    have hlen : l.length = p.length + (s.length + 1) := by rw [h]; simp
    have hget : rd_T202 l (p.length : Int) = a := by rw [h]; exact getD_mid _ p a s
    have ih := laws_toModuleS_l0 l R hl hR s (p ++ [a]) k (by rw [h]; simp) (by simp at hk ⊢; omega)
    simp only [laws_toModuleS.l0]
    rw [if_pos (by omega), if_pos (by omega), hget]
    simp only [laws_toModule.f, Option.bind_some]
    rw [if_pos (by simp; omega), w64 (by omega)]
    have e0 : (a :: s).length + R = (s.length + R) + 1 := by simp; omega
    have e1 : ((p.map fun x => (⟨x.f0, x.f1⟩ : S200)) ++ List.replicate ((a :: s).length + R) z200).set ((p.length : Int)).toNat (⟨a.f0, a.f1⟩ : S200) = ((p ++ [a]).map fun x => (⟨x.f0, x.f1⟩ : S200)) ++ List.replicate (s.length + R) z200 := by
      rw [e0, List.replicate_succ]
      have := set_mid (p.map fun x => (⟨x.f0, x.f1⟩ : S200)) z200 (⟨a.f0, a.f1⟩ : S200) (List.replicate (s.length + R) z200)
      (try simp only [List.length_map] at this)
      rw [this]
      simp
    have e2 : (p.length : Int) + 1 = ((p ++ [a]).length : Int) := by simp
    rw [e1, e2, ih]
theorem laws_toModuleS_eq (l : List S202) (b : Bool) (hb : b = false ∨ l ≠ []) (hl : l.length ≤ 1000000) (k : Nat) (hk : 2 * l.length + 10 ≤ k) : laws_toModuleS.f k l b = some (((l.map fun x => (⟨x.f0, x.f1⟩ : S200)) ++ List.replicate (room l.length) (⟨(-7000000000000000101), (-7000000000000000101)⟩ : S200)).take l.length) := by
  obtain ⟨k, rfl⟩ : ∃ m, k = m + 1 := ⟨k - 1, by omega⟩
  have hr := room_le l.length
  have e : laws_toModuleS.f (k + 1) l b = laws_toModuleS.j0 (k + 1) l false := by
    unfold laws_toModuleS.f
    cases b with
    | false => rfl
    | true =>
      have hn : l ≠ [] := by simpa using hb
      have : ((l.length : Int) == 0) = false := by
        cases l with
        | nil => exact absurd rfl hn
        | cons a s => simp; omega
      rw [if_pos rfl, this]
  rw [e]
  simp only [laws_toModuleS.j0]
  rw [if_neg (by decide), room_eq, Option.bind_some, w64 (by omega), if_pos (by omega), if_pos (by omega)]
  have := laws_toModuleS_l0 l (room l.length) hl (by omega) l [] k (by simp) (by omega)
  have e3 : ((l.length : Int) + (room l.length : Int)).toNat = l.length + room l.length := by omega
  rw [e3]
  simpa using this
theorem laws_toModuleS_bare (l : List S202) (hl : l.length ≤ 1000000) (k : Nat) (hk : 2 * l.length + 10 ≤ k) : laws_toModuleS.f k l true = some (l.map fun x => (⟨x.f0, x.f1⟩ : S200)) := by
  cases l with
  | nil =>
    obtain ⟨k, rfl⟩ : ∃ m, k = m + 1 := ⟨k - 1, by omega⟩
    simp [laws_toModuleS.f, laws_toModuleS.j0]
  | cons a s =>
    rw [laws_toModuleS_eq (a :: s) true (.inr (by simp)) hl k hk]
    congr 1
    rw [List.take_append_of_le_length (by simp), List.take_of_length_le (by simp)]
theorem full_toWireS_l1 (l : List S205) : ∀ (j k : Nat) (pre : List S160), l.length ≤ pre.length → pre.length + j ≤ 4000000 → j < k → full_toWireS.l1 k l (pre ++ List.replicate j z160) (pre.length : Int) = some (pre ++ List.replicate j (⟨(-7000000000000000101), (-7000000000000000101), (-7000000000000000101)⟩ : S160))
  | 0, k, pre, h1, h2, hk => by
    obtain ⟨k, rfl⟩ : ∃ m, k = m + 1 := ⟨k - 1, by omega⟩
    simp only [full_toWireS.l1, List.replicate_zero, List.append_nil]
    rw [if_neg (by omega), if_pos (by omega), if_pos (by omega)]
  | j + 1, k, pre, h1, h2, hk => by
    obtain ⟨k, rfl⟩ : ∃ m, k = m + 1 := ⟨k - 1, by omega⟩
    have ih := full_toWireS_l1 l j k (pre ++ [(⟨(-7000000000000000101), (-7000000000000000101), (-7000000000000000101)⟩ : S160)]) (by simp; omega) (by simp; omega) (by omega)
    simp only [full_toWireS.l1]
    rw [if_pos (by simp; omega)]
    simp only [laws_fillerWire.f, Option.bind_some]
    rw [if_pos (by omega), w64 (by omega), List.replicate_succ, set_mid]
    have e1 : pre ++ (⟨(-7000000000000000101), (-7000000000000000101), (-7000000000000000101)⟩ : S160) :: List.replicate j z160 = (pre ++ [(⟨(-7000000000000000101), (-7000000000000000101), (-7000000000000000101)⟩ : S160)]) ++ List.replicate j z160 := by simp
    have e2 : (pre.length : Int) + 1 = ((pre ++ [(⟨(-7000000000000000101), (-7000000000000000101), (-7000000000000000101)⟩ : S160)]).length : Int) := by simp
    rw [e1, e2, ih]
    simp [List.replicate_succ]
theorem full_toWireS_l0 (l : List S205) (R : Nat) (hl : l.length ≤ 1000000) (hR : R ≤ 1000001) : ∀ (s p : List S205) (k : Nat), l = p ++ s → s.length + R + 2 ≤ k → full_toWireS.l0 k l ((p.map fun x => (⟨x.f0, x.f1, x.f2⟩ : S160)) ++ List.replicate (s.length + R) z160) (p.length : Int) = some ((l.map fun x => (⟨x.f0, x.f1, x.f2⟩ : S160)) ++ List.replicate R (⟨(-7000000000000000101), (-7000000000000000101), (-7000000000000000101)⟩ : S160))
  | [], p, k, h, hk => by
    obtain ⟨k, rfl⟩ : ∃ m, k = m + 1 := ⟨k - 1, by omega⟩
    have hp : l = p := by simpa using h
    subst hp
    simp only [full_toWireS.l0]
    rw [if_neg (by omega)]
    have := full_toWireS_l1 l R k (l.map fun x => (⟨x.f0, x.f1, x.f2⟩ : S160)) (by simp) (by (try simp only [List.length_map]); omega) (by simp at hk; omega)
    simpa using this
  | a :: s, p, k, h, hk => by
    obtain ⟨k, rfl⟩ : ∃ m, k = m + 1 := ⟨k - 1, by omega⟩
    have hlen : l.length = p.length + (s.length + 1) := by rw [h]; simp
    have hget : rd_T205 l (p.length : Int) = a := by rw [h]; exact getD_mid _ p a s
    have ih := full_toWireS_l0 l R hl hR s (p ++ [a]) k (by rw [h]; simp) (by simp at hk ⊢; omega)
    simp only [full_toWireS.l0]
    rw [if_pos (by omega), if_pos (by omega), hget]
    simp only [laws_toWire.f, Option.bind_some]
    rw [if_pos (by simp; omega), w64 (by omega)]
    have e0 : (a :: s).length + R = (s.length + R) + 1 := by simp; omega
    have e1 : ((p.map fun x => (⟨x.f0, x.f1, x.f2⟩ : S160)) ++ List.replicate ((a :: s).length + R) z160).set ((p.length : Int)).toNat (⟨a.f0, a.f1, a.f2⟩ : S160) = ((p ++ [a]).map fun x => (⟨x.f0, x.f1, x.f2⟩ : S160)) ++ List.replicate (s.length + R) z160 := by
      rw [e0, List.replicate_succ]
      have := set_mid (p.map fun x => (⟨x.f0, x.f1, x.f2⟩ : S160)) z160 (⟨a.f0, a.f1, a.f2⟩ : S160) (List.replicate (s.length + R) z160)
      (try simp only [List.length_map] at this)
      rw [this]
      simp
    have e2 : (p.length : Int) + 1 = ((p ++ [a]).length : Int) := by simp
    rw [e1, e2, ih]
theorem full_toWireS_eq (l : List S205) (b : Bool) (hb : b = false ∨ l ≠ []) (hl : l.length ≤ 1000000) (k : Nat) (hk : 2 * l.length + 10 ≤ k) : full_toWireS.f k l b = some ((l.map fun x => (⟨x.f0, x.f1, x.f2⟩ : S160)) ++ List.replicate (room l.length) (⟨(-7000000000000000101), (-7000000000000000101), (-7000000000000000101)⟩ : S160)) := by
  obtain ⟨k, rfl⟩ : ∃ m, k = m + 1 := ⟨k - 1, by omega⟩
  have hr := room_le l.length
  have e : full_toWireS.f (k + 1) l b = full_toWireS.j0 (k + 1) l false := by
    unfold full_toWireS.f
    cases b with
    | false => rfl
    | true =>
      have hn : l ≠ [] := by simpa using hb
      have : ((l.length : Int) == 0) = false := by
        cases l with
        | nil => exact absurd rfl hn
        | cons a s => simp; omega
      rw [if_pos rfl, this]
  rw [e]
  simp only [full_toWireS.j0]
  rw [if_neg (by decide), room_eq, Option.bind_some, w64 (by omega), if_pos (by omega), if_pos (by omega)]
  have := full_toWireS_l0 l (room l.length) hl (by omega) l [] k (by simp) (by omega)
  have e3 : ((l.length : Int) + (room l.length : Int)).toNat = l.length + room l.length := by omega
  rw [e3]
  simpa using this
theorem laws_toWireS_l1 (l : List S205) : ∀ (j k : Nat) (pre : List S160), l.length ≤ pre.length → pre.length + j ≤ 4000000 → j < k → laws_toWireS.l1 k l (pre ++ List.replicate j z160) (pre.length : Int) = some ((pre ++ List.replicate j (⟨(-7000000000000000101), (-7000000000000000101), (-7000000000000000101)⟩ : S160)).take l.length)
  | 0, k, pre, h1, h2, hk => by
    obtain ⟨k, rfl⟩ : ∃ m, k = m + 1 := ⟨k - 1, by omega⟩
    simp only [laws_toWireS.l1, List.replicate_zero, List.append_nil]
    rw [if_neg (by omega), if_pos (by omega), if_pos (by omega)]
    rw [Int.toNat_natCast]
  | j + 1, k, pre, h1, h2, hk => by
    obtain ⟨k, rfl⟩ : ∃ m, k = m + 1 := ⟨k - 1, by omega⟩
    have ih := laws_toWireS_l1 l j k (pre ++ [(⟨(-7000000000000000101), (-7000000000000000101), (-7000000000000000101)⟩ : S160)]) (by simp; omega) (by simp; omega) (by omega)
    simp only [laws_toWireS.l1]
    rw [if_pos (by simp; omega)]
    simp only [laws_fillerWire.f, Option.bind_some]
    rw [if_pos (by omega), w64 (by omega), List.replicate_succ, set_mid]
    have e1 : pre ++ (⟨(-7000000000000000101), (-7000000000000000101), (-7000000000000000101)⟩ : S160) :: List.replicate j z160 = (pre ++ [(⟨(-7000000000000000101), (-7000000000000000101), (-7000000000000000101)⟩ : S160)]) ++ List.replicate j z160 := by simp
    have e2 : (pre.length : Int) + 1 = ((pre ++ [(⟨(-7000000000000000101), (-7000000000000000101), (-7000000000000000101)⟩ : S160)]).length : Int) := by simp
    rw [e1, e2, ih]
    simp [List.replicate_succ]
theorem laws_toWireS_l0 (l : List S205) (R : Nat) (hl : l.length ≤ 1000000) (hR : R ≤ 1000001) : ∀ (s p : List S205) (k : Nat), l = p ++ s → s.length + R + 2 ≤ k → laws_toWireS.l0 k l ((p.map fun x => (⟨x.f0, x.f1, x.f2⟩ : S160)) ++ List.replicate (s.length + R) z160) (p.length : Int) = some (((l.map fun x => (⟨x.f0, x.f1, x.f2⟩ : S160)) ++ List.replicate R (⟨(-7000000000000000101), (-7000000000000000101), (-7000000000000000101)⟩ : S160)).take l.length)
  | [], p, k, h, hk => by
    obtain ⟨k, rfl⟩ : ∃ m, k = m + 1 := ⟨k - 1, by omega⟩
    have hp : l = p := by simpa using h
    subst hp
    simp only [laws_toWireS.l0]
    rw [if_neg (by omega)]
    have := laws_toWireS_l1 l R k (l.map fun x => (⟨x.f0, x.f1, x.f2⟩ : S160)) (by simp) (by (try simp only [List.length_map]); omega) (by simp at hk; omega)
    simpa using this
  | a :: s, p, k, h, hk => by
    obtain ⟨k, rfl⟩ : ∃ m, k = m + 1 := ⟨k - 1, by omega⟩
    have hlen : l.length = p.length + (s.length + 1) := by rw [h]; simp
    have hget : rd_T205 l (p.length : Int) = a := by rw [h]; exact getD_mid _ p a s
    have ih := laws_toWireS_l0 l R hl hR s (p ++ [a]) k (by rw [h]; simp) (by simp at hk ⊢; omega)
    simp only [laws_toWireS.l0]
    rw [if_pos (by omega), if_pos (by omega), hget]
    simp only [laws_toWire.f, Option.bind_some]
    rw [if_pos (by simp; omega), w64 (by omega)]
    have e0 : (a :: s).length + R = (s.length + R) + 1 := by simp; omega
    have e1 : ((p.map fun x => (⟨x.f0, x.f1, x.f2⟩ : S160)) ++ List.replicate ((a :: s).length + R) z160).set ((p.length : Int)).toNat (⟨a.f0, a.f1, a.f2⟩ : S160) = ((p ++ [a]).map fun x => (⟨x.f0, x.f1, x.f2⟩ : S160)) ++ List.replicate (s.length + R) z160 := by
      rw [e0, List.replicate_succ]
      have := set_mid (p.map fun x => (⟨x.f0, x.f1, x.f2⟩ : S160)) z160 (⟨a.f0, a.f1, a.f2⟩ : S160) (List.replicate (s.length + R) z160)
      (try simp only [List.length_map] at this)
      rw [this]
      simp
    have e2 : (p.length : Int) + 1 = ((p ++ [a]).length : Int) := by simp
    rw [e1, e2, ih]
theorem laws_toWireS_eq (l : List S205) (b : Bool) (hb : b = false ∨ l ≠ []) (hl : l.length ≤ 1000000) (k : Nat) (hk : 2 * l.length + 10 ≤ k) : laws_toWireS.f k l b = some (((l.map fun x => (⟨x.f0, x.f1, x.f2⟩ : S160)) ++ List.replicate (room l.length) (⟨(-7000000000000000101), (-7000000000000000101), (-7000000000000000101)⟩ : S160)).take l.length) := by
  obtain ⟨k, rfl⟩ : ∃ m, k = m + 1 := ⟨k - 1, by omega⟩
  have hr := room_le l.length
  have e : laws_toWireS.f (k + 1) l b = laws_toWireS.j0 (k + 1) l false := by
    unfold laws_toWireS.f
    cases b with
    | false => rfl
    | true =>
      have hn : l ≠ [] := by simpa using hb
      have : ((l.length : Int) == 0) = false := by
        cases l with
        | nil => exact absurd rfl hn
        | cons a s => simp; omega
      rw [if_pos rfl, this]
  rw [e]
  simp only [laws_toWireS.j0]
  rw [if_neg (by decide), room_eq, Option.bind_some, w64 (by omega), if_pos (by omega), if_pos (by omega)]
  have := laws_toWireS_l0 l (room l.length) hl (by omega) l [] k (by simp) (by omega)
  have e3 : ((l.length : Int) + (room l.length : Int)).toNat = l.length + room l.length := by omega
  rw [e3]
  simpa using this
theorem laws_toWireS_bare (l : List S205) (hl : l.length ≤ 1000000) (k : Nat) (hk : 2 * l.length + 10 ≤ k) : laws_toWireS.f k l true = some (l.map fun x => (⟨x.f0, x.f1, x.f2⟩ : S160)) := by
  cases l with
  | nil =>
    obtain ⟨k, rfl⟩ : ∃ m, k = m + 1 := ⟨k - 1, by omega⟩
    simp [laws_toWireS.f, laws_toWireS.j0]
  | cons a s =>
    rw [laws_toWireS_eq (a :: s) true (.inr (by simp)) hl k hk]
    congr 1
    rw [List.take_append_of_le_length (by simp), List.take_of_length_le (by simp)]
theorem laws_eqModuleS_l0 (l : List S200) (hl : l.length ≤ 1000000000) : ∀ (d k : Nat) (i : Int), 0 ≤ i → i + d = l.length → d < k → laws_eqModuleS.l0 k l l i = some true
  | 0, k, i, h0, h1, hk => by
    obtain ⟨k, rfl⟩ : ∃ m, k = m + 1 := ⟨k - 1, by omega⟩
    simp only [laws_eqModuleS.l0]
    rw [if_neg (by omega)]
  | d + 1, k, i, h0, h1, hk => by
    obtain ⟨k, rfl⟩ : ∃ m, k = m + 1 := ⟨k - 1, by omega⟩
    simp only [laws_eqModuleS.l0]
    rw [if_pos (by omega), if_pos (by omega), if_pos (by omega)]
    have e0 : laws_eqModule.f (rd_T200 l i).f0 (rd_T200 l i).f1 (rd_T200 l i).f0 (rd_T200 l i).f1 = some true := by unfold laws_eqModule.f; simp
    rw [e0, Option.bind_some]
    first | rw [if_pos trivial] | rw [if_pos rfl]
    rw [w64 (by omega)]
    exact laws_eqModuleS_l0 l hl d k (i + 1) (by omega) (by omega) (by omega)
theorem laws_eqModuleS_same (l : List S200) (hl : l.length ≤ 1000000000) (k : Nat) (hk : l.length < k) : laws_eqModuleS.f k l l = some true := by
  unfold laws_eqModuleS.f
  rw [if_pos rfl]
  exact laws_eqModuleS_l0 l hl l.length k 0 (by omega) (by omega) hk
theorem laws_eqWireS_l0 (l : List S160) (hl : l.length ≤ 1000000000) : ∀ (d k : Nat) (i : Int), 0 ≤ i → i + d = l.length → d < k → laws_eqWireS.l0 k l l i = some true
  | 0, k, i, h0, h1, hk => by
    obtain ⟨k, rfl⟩ : ∃ m, k = m + 1 := ⟨k - 1, by omega⟩
    simp only [laws_eqWireS.l0]
    rw [if_neg (by omega)]
  | d + 1, k, i, h0, h1, hk => by
    obtain ⟨k, rfl⟩ : ∃ m, k = m + 1 := ⟨k - 1, by omega⟩
    simp only [laws_eqWireS.l0]
    rw [if_pos (by omega), if_pos (by omega), if_pos (by omega)]
    have e0 : laws_eqWire.f (rd_T160 l i).f0 (rd_T160 l i).f1 (rd_T160 l i).f2 (rd_T160 l i).f0 (rd_T160 l i).f1 (rd_T160 l i).f2 = some true := by unfold laws_eqWire.f; simp
    rw [e0, Option.bind_some]
    first | rw [if_pos trivial] | rw [if_pos rfl]
    rw [w64 (by omega)]
    exact laws_eqWireS_l0 l hl d k (i + 1) (by omega) (by omega) (by omega)
theorem laws_eqWireS_same (l : List S160) (hl : l.length ≤ 1000000000) (k : Nat) (hk : l.length < k) : laws_eqWireS.f k l l = some true := by
  unfold laws_eqWireS.f
  rw [if_pos rfl]
  exact laws_eqWireS_l0 l hl l.length k 0 (by omega) (by omega) hk
theorem laws_szModuleS_le {l : List (S202)} {a s : Int} (h : laws_szModuleS.f l a = some s) (hg : ¬ s < 0) (hl : l.length ≤ 140737488351232) (ha : -1000000000000000 ≤ a ∧ a ≤ 1000000) : (l.length : Int) ≤ a ∧ 0 ≤ s ∧ s ≤ 1000000 := by
  unfold laws_szModuleS.f at h
  rw [w64 (by omega)] at h
  split at h
  · injection h; omega
  · injection h; omega
theorem laws_szModuleS_some (l : List (S202)) (a : Int) : ∃ s, laws_szModuleS.f l a = some s := by
  unfold laws_szModuleS.f
  split
  · exact ⟨_, rfl⟩
  · exact ⟨_, rfl⟩
theorem laws_szWireS_le {l : List (S205)} {a s : Int} (h : laws_szWireS.f l a = some s) (hg : ¬ s < 0) (hl : l.length ≤ 140737488351232) (ha : -1000000000000000 ≤ a ∧ a ≤ 1000000) : (l.length : Int) ≤ a ∧ 0 ≤ s ∧ s ≤ 1000000 := by
  unfold laws_szWireS.f at h
  rw [w64 (by omega)] at h
  split at h
  · injection h; omega
  · injection h; omega
theorem laws_szWireS_some (l : List (S205)) (a : Int) : ∃ s, laws_szWireS.f l a = some s := by
  unfold laws_szWireS.f
  split
  · exact ⟨_, rfl⟩
  · exact ⟨_, rfl⟩
theorem facts (l0 : (List S202)) (a1 : Int) (l2 : (List S205)) (a3 : Int) (a4 : Int) (q0 : (l0.length * 16 ≤ 140737488351232 ∧ ∀ x ∈ l0, (I64 x.f0 ∧ I64 x.f1))) (q1 : I64 a1) (q2 : (l2.length * 24 ≤ 140737488351232 ∧ ∀ x ∈ l2, (I64 x.f0 ∧ I64 x.f1 ∧ I64 x.f2))) (q3 : I64 a3) (q4 : I64 a4) (t225 : Int) (z0 : laws_szModuleS.f l0 1000000 = some t225) (g0 : ¬ t225 < 0) (t226 : Int) (z1 : laws_szWireS.f l2 t225 = some t226) (g1 : ¬ t226 < 0) :
    ∃ (k : Nat) (m0 f0 : List S200) (t0 : Int) (m2 f2 : List S160) (t2 : Int) (r1 : Int) (r2 : Int), full_toModuleS.f k l0 false = some f0 ∧ f0.take l0.length = m0 ∧ laws_toModuleS.f k l0 true = some m0 ∧ laws_roomBehind.f (m0.length : Int) = some t0 ∧ wrap64 ((m0.length : Int) + t0) = (f0.length : Int) ∧ laws_eqModuleS.f k f0 f0 = some true ∧ full_toWireS.f k l2 false = some f2 ∧ f2.take l2.length = m2 ∧ laws_toWireS.f k l2 true = some m2 ∧ laws_roomBehind.f (m2.length : Int) = some t2 ∧ wrap64 ((m2.length : Int) + t2) = (f2.length : Int) ∧ laws_eqWireS.f k f2 f2 = some true ∧ spec_CueAt.f k m0 a1 m2 a3 a4 = some (r1, r2) ∧ impl_CueAt.f k m0 a1 m2 a3 a4 = some (r1, r2) := by
  have b0 : l0.length ≤ 140737488351232 := by have := q0.1; omega
  have b2 : l2.length ≤ 140737488351232 := by have := q2.1; omega
  have c0 := laws_szModuleS_le z0 g0 b0 (by omega)
  have c1 := laws_szWireS_le z1 g1 b2 (by omega)
  have n0 : l0.length ≤ 1000000 := by omega
  have n2 : l2.length ≤ 1000000 := by omega
  obtain ⟨K0, r1, r2, hag⟩ := Pure.agree_CueAt (l0.map fun x => (⟨x.f0, x.f1⟩ : S200)) a1 (l2.map fun x => (⟨x.f0, x.f1, x.f2⟩ : S160)) a3 a4 (by simpa using n0) (by have := q0.2; simpa using this) q1 (by simpa using n2) (by have := q2.2; simpa using this) q3 q4
  exact ⟨K0 + 100000000, (l0.map fun x => (⟨x.f0, x.f1⟩ : S200)), ((l0.map fun x => (⟨x.f0, x.f1⟩ : S200)) ++ List.replicate (room l0.length) (⟨(-7000000000000000101), (-7000000000000000101)⟩ : S200)), ((room l0.length : Nat) : Int), (l2.map fun x => (⟨x.f0, x.f1, x.f2⟩ : S160)), ((l2.map fun x => (⟨x.f0, x.f1, x.f2⟩ : S160)) ++ List.replicate (room l2.length) (⟨(-7000000000000000101), (-7000000000000000101), (-7000000000000000101)⟩ : S160)), ((room l2.length : Nat) : Int), r1, r2, full_toModuleS_eq l0 false (.inl rfl) n0 _ (by omega), (by rw [List.take_append_of_le_length (by simp), List.take_of_length_le (by simp)]), laws_toModuleS_bare l0 n0 _ (by omega), (by first | exact room_eq _ | (rw [List.length_map]; exact room_eq _)), (by have := room_le l0.length; rw [w64 (by (try simp only [List.length_map]); omega)]; simp), laws_eqModuleS_same _ (by have := room_le l0.length; simp; omega) _ (by have := room_le l0.length; simp; omega), full_toWireS_eq l2 false (.inl rfl) n2 _ (by omega), (by rw [List.take_append_of_le_length (by simp), List.take_of_length_le (by simp)]), laws_toWireS_bare l2 n2 _ (by omega), (by first | exact room_eq _ | (rw [List.length_map]; exact room_eq _)), (by have := room_le l2.length; rw [w64 (by (try simp only [List.length_map]); omega)]; simp), laws_eqWireS_same _ (by have := room_le l2.length; simp; omega) _ (by have := room_le l2.length; simp; omega), (hag _ (by omega)).1, (hag _ (by omega)).2⟩
end Go.Proofs.Ytedcdhnbceaaeaa.FactsFnExactCueAt
