/- FactsFnExactChainTimes of the law FnExactChainTimes: taken over, declaration by declaration, as far as the law leans on it (the words and the printed functions are the kit's own print). No condition but what each says. -/
import Derived.Test.YtedcdhnbceaaeaaZFnExactChainTimesav
import Derived.Test.YtedcdhnbceaaeaaZFnExactChainTimesax
import Derived.Test.YtedcdhnbceaaeaaZFnExactChainTimesay
import Derived.Test.YtedcdhnbceaaeaaZFnExactChainTimesbb
import Derived.Test.YtedcdhnbceaaeaaZFnExactChainTimesbd
import Derived.Test.YtedcdhnbceaaeaaZFnExactChainTimesbc
namespace Go.Proofs.Ytedcdhnbceaaeaa.FactsFnExactChainTimes
open Go.RowKit Go.Proofs.Ytedcdhnbceaaeaa.PFnExactChainTimes Go.Proofs.YtedcdhnbceaaeaaW.PrintWords Go.Proofs.YtedcdhnbceaaeaaW.PrintLast Go.Proofs.Ytedcdhnbceaaeaa.Opening
open Go.Proofs.Ytedcdhnbceaaeaa.Pure (w64)
set_option linter.unusedVariables false
set_option linter.unusedSimpArgs false
def room (n : Nat) : Nat := if n % 6 = 5 then 0 else if n % 3 = 0 then 1 else n
theorem room_le (n : Nat) : room n ≤ n + 1 := by unfold room; split <;> (try split) <;> omega
theorem room_eq (n : Nat) : laws_roomBehind.f (n : Int) = some ((room n : Nat) : Int) := by
  unfold laws_roomBehind.f room
  rw [Int.tmod_eq_emod_of_nonneg (by omega), Int.tmod_eq_emod_of_nonneg (by omega)]
  by_cases h : n % 6 = 5
  · rw [if_pos (by omega), if_pos h]; rfl
  · rw [if_neg (by omega), if_neg h]
    by_cases h2 : n % 3 = 0
    · rw [if_pos (by omega), if_pos h2]; rfl
    · rw [if_neg (by omega), if_neg h2]
theorem set_mid {α : Type} (p : List α) (b v : α) (s : List α) : (p ++ b :: s).set ((p.length : Int)).toNat v = p ++ v :: s := by
  rw [Int.toNat_natCast, List.set_append_right _ _ (Nat.le_refl _)]
  simp
theorem getD_mid {α : Type} (z : α) (p : List α) (b : α) (s : List α) : (p ++ b :: s).getD ((p.length : Int)).toNat z = b := by
  rw [Int.toNat_natCast, List.getD_eq_getElem?_getD, List.getElem?_append_right (Nat.le_refl _)]
  simp
theorem full_toLinkS_l1 (l : List S193) : ∀ (j k : Nat) (pre : List S191), l.length ≤ pre.length → pre.length + j ≤ 4000000 → j < k → full_toLinkS.l1 k l (pre ++ List.replicate j z191) (pre.length : Int) = some (pre ++ List.replicate j (⟨(-7000000000000000101), (-7000000000000000101)⟩ : S191))
  | 0, k, pre, h1, h2, hk => by
    obtain ⟨k, rfl⟩ : ∃ m, k = m + 1 := ⟨k - 1, by omega⟩
    simp only [full_toLinkS.l1, List.replicate_zero, List.append_nil]
    rw [if_neg (by omega), if_pos (by omega), if_pos (by omega)]
  | j + 1, k, pre, h1, h2, hk => by
    obtain ⟨k, rfl⟩ : ∃ m, k = m + 1 := ⟨k - 1, by omega⟩
    have ih := full_toLinkS_l1 l j k (pre ++ [(⟨(-7000000000000000101), (-7000000000000000101)⟩ : S191)]) (by simp; omega) (by simp; omega) (by omega)
    simp only [full_toLinkS.l1]
    rw [if_pos (by simp; omega)]
    simp only [laws_fillerLink.f, Option.bind_some]
    rw [if_pos (by omega), w64 (by omega), List.replicate_succ, set_mid]
    have e1 : pre ++ (⟨(-7000000000000000101), (-7000000000000000101)⟩ : S191) :: List.replicate j z191 = (pre ++ [(⟨(-7000000000000000101), (-7000000000000000101)⟩ : S191)]) ++ List.replicate j z191 := by simp
    have e2 : (pre.length : Int) + 1 = ((pre ++ [(⟨(-7000000000000000101), (-7000000000000000101)⟩ : S191)]).length : Int) := by simp
    rw [e1, e2, ih]
    simp [List.replicate_succ]
theorem full_toLinkS_l0 (l : List S193) (R : Nat) (hl : l.length ≤ 1000000) (hR : R ≤ 1000001) : ∀ (s p : List S193) (k : Nat), l = p ++ s → s.length + R + 2 ≤ k → full_toLinkS.l0 k l ((p.map fun x => (⟨x.f0, x.f1⟩ : S191)) ++ List.replicate (s.length + R) z191) (p.length : Int) = some ((l.map fun x => (⟨x.f0, x.f1⟩ : S191)) ++ List.replicate R (⟨(-7000000000000000101), (-7000000000000000101)⟩ : S191))
  | [], p, k, h, hk => by
    obtain ⟨k, rfl⟩ : ∃ m, k = m + 1 := ⟨k - 1, by omega⟩
    have hp : l = p := by simpa using h
    subst hp
    simp only [full_toLinkS.l0]
    rw [if_neg (by omega)]
    have := full_toLinkS_l1 l R k (l.map fun x => (⟨x.f0, x.f1⟩ : S191)) (by simp) (by (try simp only [List.length_map]); omega) (by simp at hk; omega)
    simpa using this
  | a :: s, p, k, h, hk => by
    obtain ⟨k, rfl⟩ : ∃ m, k = m + 1 := ⟨k - 1, by omega⟩
    have hlen : l.length = p.length + (s.length + 1) := by rw [h]; simp
    have hget : rd_T193 l (p.length : Int) = a := by rw [h]; exact getD_mid _ p a s
    have ih := full_toLinkS_l0 l R hl hR s (p ++ [a]) k (by rw [h]; simp) (by simp at hk ⊢; omega)
    simp only [full_toLinkS.l0]
    rw [if_pos (by omega), if_pos (by omega), hget]
    simp only [laws_toLink.f, Option.bind_some]
    rw [if_pos (by simp; omega), w64 (by omega)]
    have e0 : (a :: s).length + R = (s.length + R) + 1 := by simp; omega
    have e1 : ((p.map fun x => (⟨x.f0, x.f1⟩ : S191)) ++ List.replicate ((a :: s).length + R) z191).set ((p.length : Int)).toNat (⟨a.f0, a.f1⟩ : S191) = ((p ++ [a]).map fun x => (⟨x.f0, x.f1⟩ : S191)) ++ List.replicate (s.length + R) z191 := by
      rw [e0, List.replicate_succ]
      have := set_mid (p.map fun x => (⟨x.f0, x.f1⟩ : S191)) z191 (⟨a.f0, a.f1⟩ : S191) (List.replicate (s.length + R) z191)
      (try simp only [List.length_map] at this)
      rw [this]
      simp
    have e2 : (p.length : Int) + 1 = ((p ++ [a]).length : Int) := by simp
    rw [e1, e2, ih]
theorem full_toLinkS_eq (l : List S193) (b : Bool) (hb : b = false ∨ l ≠ []) (hl : l.length ≤ 1000000) (k : Nat) (hk : 2 * l.length + 10 ≤ k) : full_toLinkS.f k l b = some ((l.map fun x => (⟨x.f0, x.f1⟩ : S191)) ++ List.replicate (room l.length) (⟨(-7000000000000000101), (-7000000000000000101)⟩ : S191)) := by
  obtain ⟨k, rfl⟩ : ∃ m, k = m + 1 := ⟨k - 1, by omega⟩
  have hr := room_le l.length
  have e : full_toLinkS.f (k + 1) l b = full_toLinkS.j0 (k + 1) l false := by
    unfold full_toLinkS.f
    cases b with
    | false => rfl
    | true =>
      have hn : l ≠ [] := by simpa using hb
      have : ((l.length : Int) == 0) = false := by
        cases l with
        | nil => exact absurd rfl hn
        | cons a s => simp; omega
      rw [if_pos rfl, this]
  rw [e]
  simp only [full_toLinkS.j0]
  rw [if_neg (by decide), room_eq, Option.bind_some, w64 (by omega), if_pos (by omega), if_pos (by omega)]
  have := full_toLinkS_l0 l (room l.length) hl (by omega) l [] k (by simp) (by omega)
  have e3 : ((l.length : Int) + (room l.length : Int)).toNat = l.length + room l.length := by omega
  rw [e3]
  simpa using this
theorem laws_toLinkS_l1 (l : List S193) : ∀ (j k : Nat) (pre : List S191), l.length ≤ pre.length → pre.length + j ≤ 4000000 → j < k → laws_toLinkS.l1 k l (pre ++ List.replicate j z191) (pre.length : Int) = some ((pre ++ List.replicate j (⟨(-7000000000000000101), (-7000000000000000101)⟩ : S191)).take l.length)
  | 0, k, pre, h1, h2, hk => by
    obtain ⟨k, rfl⟩ : ∃ m, k = m + 1 := ⟨k - 1, by omega⟩
    simp only [laws_toLinkS.l1, List.replicate_zero, List.append_nil]
    rw [if_neg (by omega), if_pos (by omega), if_pos (by omega)]
    rw [Int.toNat_natCast]
  | j + 1, k, pre, h1, h2, hk => by
    obtain ⟨k, rfl⟩ : ∃ m, k = m + 1 := ⟨k - 1, by omega⟩
    have ih := laws_toLinkS_l1 l j k (pre ++ [(⟨(-7000000000000000101), (-7000000000000000101)⟩ : S191)]) (by simp; omega) (by simp; omega) (by omega)
    simp only [laws_toLinkS.l1]
    rw [if_pos (by simp; omega)]
    simp only [laws_fillerLink.f, Option.bind_some]
    rw [if_pos (by omega), w64 (by omega), List.replicate_succ, set_mid]
    have e1 : pre ++ (⟨(-7000000000000000101), (-7000000000000000101)⟩ : S191) :: List.replicate j z191 = (pre ++ [(⟨(-7000000000000000101), (-7000000000000000101)⟩ : S191)]) ++ List.replicate j z191 := by simp
    have e2 : (pre.length : Int) + 1 = ((pre ++ [(⟨(-7000000000000000101), (-7000000000000000101)⟩ : S191)]).length : Int) := by simp
    rw [e1, e2, ih]
    simp [List.replicate_succ]
theorem laws_toLinkS_l0 (l : List S193) (R : Nat) (hl : l.length ≤ 1000000) (hR : R ≤ 1000001) : ∀ (s p : List S193) (k : Nat), l = p ++ s → s.length + R + 2 ≤ k → laws_toLinkS.l0 k l ((p.map fun x => (⟨x.f0, x.f1⟩ : S191)) ++ List.replicate (s.length + R) z191) (p.length : Int) = some (((l.map fun x => (⟨x.f0, x.f1⟩ : S191)) ++ List.replicate R (⟨(-7000000000000000101), (-7000000000000000101)⟩ : S191)).take l.length)
  | [], p, k, h, hk => by
    obtain ⟨k, rfl⟩ : ∃ m, k = m + 1 := ⟨k - 1, by omega⟩
    have hp : l = p := by simpa using h
    subst hp
    simp only [laws_toLinkS.l0]
    rw [if_neg (by omega)]
    have := laws_toLinkS_l1 l R k (l.map fun x => (⟨x.f0, x.f1⟩ : S191)) (by simp) (by (try simp only [List.length_map]); omega) (by simp at hk; omega)
    simpa using this
  | a :: s, p, k, h, hk => by
    obtain ⟨k, rfl⟩ : ∃ m, k = m + 1 := ⟨k - 1, by omega⟩
    have hlen : l.length = p.length + (s.length + 1) := by rw [h]; simp
    have hget : rd_T193 l (p.length : Int) = a := by rw [h]; exact getD_mid _ p a s
    have ih := laws_toLinkS_l0 l R hl hR s (p ++ [a]) k (by rw [h]; simp) (by simp at hk ⊢; omega)
    simp only [laws_toLinkS.l0]
    rw [if_pos (by omega), if_pos (by omega), hget]
    simp only [laws_toLink.f, Option.bind_some]
    rw [if_pos (by simp; omega), w64 (by omega)]
    have e0 : (a :: s).length + R = (s.length + R) + 1 := by simp; omega
    have e1 : ((p.map fun x => (⟨x.f0, x.f1⟩ : S191)) ++ List.replicate ((a :: s).length + R) z191).set ((p.length : Int)).toNat (⟨a.f0, a.f1⟩ : S191) = ((p ++ [a]).map fun x => (⟨x.f0, x.f1⟩ : S191)) ++ List.replicate (s.length + R) z191 := by
      rw [e0, List.replicate_succ]
      have := set_mid (p.map fun x => (⟨x.f0, x.f1⟩ : S191)) z191 (⟨a.f0, a.f1⟩ : S191) (List.replicate (s.length + R) z191)
      (try simp only [List.length_map] at this)
      rw [this]
      simp
    have e2 : (p.length : Int) + 1 = ((p ++ [a]).length : Int) := by simp
    rw [e1, e2, ih]
theorem laws_toLinkS_eq (l : List S193) (b : Bool) (hb : b = false ∨ l ≠ []) (hl : l.length ≤ 1000000) (k : Nat) (hk : 2 * l.length + 10 ≤ k) : laws_toLinkS.f k l b = some (((l.map fun x => (⟨x.f0, x.f1⟩ : S191)) ++ List.replicate (room l.length) (⟨(-7000000000000000101), (-7000000000000000101)⟩ : S191)).take l.length) := by
  obtain ⟨k, rfl⟩ : ∃ m, k = m + 1 := ⟨k - 1, by omega⟩
  have hr := room_le l.length
  have e : laws_toLinkS.f (k + 1) l b = laws_toLinkS.j0 (k + 1) l false := by
    unfold laws_toLinkS.f
    cases b with
    | false => rfl
    | true =>
      have hn : l ≠ [] := by simpa using hb
      have : ((l.length : Int) == 0) = false := by
        cases l with
        | nil => exact absurd rfl hn
        | cons a s => simp; omega
      rw [if_pos rfl, this]
  rw [e]
  simp only [laws_toLinkS.j0]
  rw [if_neg (by decide), room_eq, Option.bind_some, w64 (by omega), if_pos (by omega), if_pos (by omega)]
  have := laws_toLinkS_l0 l (room l.length) hl (by omega) l [] k (by simp) (by omega)
  have e3 : ((l.length : Int) + (room l.length : Int)).toNat = l.length + room l.length := by omega
  rw [e3]
  simpa using this
theorem laws_toLinkS_bare (l : List S193) (hl : l.length ≤ 1000000) (k : Nat) (hk : 2 * l.length + 10 ≤ k) : laws_toLinkS.f k l true = some (l.map fun x => (⟨x.f0, x.f1⟩ : S191)) := by
  cases l with
  | nil =>
    obtain ⟨k, rfl⟩ : ∃ m, k = m + 1 := ⟨k - 1, by omega⟩
    simp [laws_toLinkS.f, laws_toLinkS.j0]
  | cons a s =>
    rw [laws_toLinkS_eq (a :: s) true (.inr (by simp)) hl k hk]
    congr 1
    rw [List.take_append_of_le_length (by simp), List.take_of_length_le (by simp)]
theorem laws_eqInt64S_l0 (l : List Int) (hl : l.length ≤ 1000000000) : ∀ (d k : Nat) (i : Int), 0 ≤ i → i + d = l.length → d < k → laws_eqInt64S.l0 k l l i = some true
  | 0, k, i, h0, h1, hk => by
    obtain ⟨k, rfl⟩ : ∃ m, k = m + 1 := ⟨k - 1, by omega⟩
    simp only [laws_eqInt64S.l0]
    rw [if_neg (by omega)]
  | d + 1, k, i, h0, h1, hk => by
    obtain ⟨k, rfl⟩ : ∃ m, k = m + 1 := ⟨k - 1, by omega⟩
    simp only [laws_eqInt64S.l0]
    rw [if_pos (by omega), if_pos (by omega), if_pos (by omega)]
    first | rw [if_pos trivial] | rw [if_pos rfl]
    rw [w64 (by omega)]
    exact laws_eqInt64S_l0 l hl d k (i + 1) (by omega) (by omega) (by omega)
theorem laws_eqInt64S_same (l : List Int) (hl : l.length ≤ 1000000000) (k : Nat) (hk : l.length < k) : laws_eqInt64S.f k l l = some true := by
  unfold laws_eqInt64S.f
  rw [if_pos rfl]
  exact laws_eqInt64S_l0 l hl l.length k 0 (by omega) (by omega) hk
theorem laws_eqLinkS_l0 (l : List S191) (hl : l.length ≤ 1000000000) : ∀ (d k : Nat) (i : Int), 0 ≤ i → i + d = l.length → d < k → laws_eqLinkS.l0 k l l i = some true
  | 0, k, i, h0, h1, hk => by
    obtain ⟨k, rfl⟩ : ∃ m, k = m + 1 := ⟨k - 1, by omega⟩
    simp only [laws_eqLinkS.l0]
    rw [if_neg (by omega)]
  | d + 1, k, i, h0, h1, hk => by
    obtain ⟨k, rfl⟩ : ∃ m, k = m + 1 := ⟨k - 1, by omega⟩
    simp only [laws_eqLinkS.l0]
    rw [if_pos (by omega), if_pos (by omega), if_pos (by omega)]
    have e0 : laws_eqLink.f (rd_T191 l i).f0 (rd_T191 l i).f1 (rd_T191 l i).f0 (rd_T191 l i).f1 = some true := by unfold laws_eqLink.f; simp
    rw [e0, Option.bind_some]
    first | rw [if_pos trivial] | rw [if_pos rfl]
    rw [w64 (by omega)]
    exact laws_eqLinkS_l0 l hl d k (i + 1) (by omega) (by omega) (by omega)
theorem laws_eqLinkS_same (l : List S191) (hl : l.length ≤ 1000000000) (k : Nat) (hk : l.length < k) : laws_eqLinkS.f k l l = some true := by
  unfold laws_eqLinkS.f
  rw [if_pos rfl]
  exact laws_eqLinkS_l0 l hl l.length k 0 (by omega) (by omega) hk
/-- The numbers from a on, field by field. -/
def marksInt64 : Nat → Int → List Int
  | 0, _ => []
  | n + 1, a => a :: marksInt64 n (a + 1)
theorem rd_midInt64 (p : List Int) (b : Int) (s : List Int) : rd (p ++ b :: s) (p.length : Int) = b := getD_mid _ p b s
theorem laws_markInt64S_l0 : ∀ (s p : List Int) (k : Nat) (a : Int), 0 ≤ a → a + 1 * s.length ≤ 1000000000 → p.length + s.length ≤ 1000000000 → s.length < k → laws_markInt64S.l0 k (p ++ s) a (p.length : Int) = some (a + 1 * s.length, p ++ marksInt64 s.length a)
  | [], p, k, a, h0, h1, h2, hk => by
    obtain ⟨k, rfl⟩ : ∃ m, k = m + 1 := ⟨k - 1, by simp at hk; omega⟩
    simp only [laws_markInt64S.l0]
    rw [if_neg (by simp)]
    simp [marksInt64]
  | b :: s, p, k, a, h0, h1, h2, hk => by
    obtain ⟨k, rfl⟩ : ∃ m, k = m + 1 := ⟨k - 1, by simp at hk; omega⟩
    simp only [List.length_cons] at h1 h2 hk
    have ih := laws_markInt64S_l0 s (p ++ [a]) k (a + 1) (by omega) (by omega) (by simp; omega) (by omega)
    simp only [laws_markInt64S.l0]
    rw [if_pos (by simp; omega), if_pos (by omega)]
    simp only [Option.bind_some, set_mid, rd_midInt64]
    have w1 : wrap64 (a + 1) = a + 1 := by rw [w64 (by omega)] <;> omega
    simp only [w1]
    have e1 : p ++ a :: s = (p ++ [a]) ++ s := by simp
    have e2 : (p.length : Int) + 1 = ((p ++ [a]).length : Int) := by simp
    rw [w64 (n := (p.length : Int) + 1) (by omega), e1, e2, ih]
    have e3 : a + 1 + 1 * (s.length : Int) = a + 1 * ((s.length + 1 : Nat) : Int) := by omega
    rw [e3]
    simp [marksInt64]
theorem laws_markInt64S_eq (l : List Int) (a : Int) (h0 : 0 ≤ a) (h1 : a + 1 * l.length ≤ 1000000000) (h2 : l.length ≤ 1000000000) (k : Nat) (hk : l.length < k) : laws_markInt64S.f k l a = some (a + 1 * l.length, marksInt64 l.length a) := by
  unfold laws_markInt64S.f
  have := laws_markInt64S_l0 l [] k a h0 h1 (by simpa using h2) hk
  simpa using this
theorem laws_heldInt64S_l0 : ∀ (m : Nat) (p : List Int) (k : Nat) (a : Int), 0 ≤ a → a + 1 * m ≤ 1000000000 → p.length + m ≤ 1000000000 → m < k → laws_heldInt64S.l0 k (p ++ marksInt64 m a) a (p.length : Int) = some (a + 1 * m)
  | 0, p, k, a, h0, h1, h2, hk => by
    obtain ⟨k, rfl⟩ : ∃ m, k = m + 1 := ⟨k - 1, by omega⟩
    simp only [laws_heldInt64S.l0]
    rw [if_neg (by simp [marksInt64])]
    simp
  | m + 1, p, k, a, h0, h1, h2, hk => by
    obtain ⟨k, rfl⟩ : ∃ m, k = m + 1 := ⟨k - 1, by omega⟩
    have ih := laws_heldInt64S_l0 m (p ++ [a]) k (a + 1) (by omega) (by omega) (by simp; omega) (by omega)
    rw [show p ++ marksInt64 (m + 1) a = p ++ a :: marksInt64 m (a + 1) from rfl]
    simp only [laws_heldInt64S.l0]
    rw [if_pos (by simp; omega), if_pos (by omega)]
    simp only [rd_midInt64]
    have w1 : wrap64 (a + 1) = a + 1 := by rw [w64 (by omega)] <;> omega
    simp only [w1]
    have e1 : p ++ a :: marksInt64 m (a + 1) = (p ++ [a]) ++ marksInt64 m (a + 1) := by simp
    have e2 : (p.length : Int) + 1 = ((p ++ [a]).length : Int) := by simp
    rw [w64 (n := (p.length : Int) + 1) (by omega), e1, e2]
    simp only [if_true]
    rw [ih]
    congr 1
    omega
theorem laws_heldInt64S_eq (m : Nat) (a : Int) (h0 : 0 ≤ a) (h1 : a + 1 * m ≤ 1000000000) (h2 : m ≤ 1000000000) (k : Nat) (hk : m < k) : laws_heldInt64S.f k (marksInt64 m a) a = some (a + 1 * m) := by
  unfold laws_heldInt64S.f
  have := laws_heldInt64S_l0 m [] k a h0 h1 (by simpa using h2) hk
  simpa using this
/-- The numbers from a on, field by field. -/
def marksLink : Nat → Int → List S191
  | 0, _ => []
  | n + 1, a => (⟨a, a + 1⟩ : S191) :: marksLink n (a + 2)
theorem rd_midLink (p : List S191) (b : S191) (s : List S191) : rd_T191 (p ++ b :: s) (p.length : Int) = b := getD_mid _ p b s
theorem laws_markLinkS_l0 : ∀ (s p : List S191) (k : Nat) (a : Int), 0 ≤ a → a + 2 * s.length ≤ 1000000000 → p.length + s.length ≤ 1000000000 → s.length < k → laws_markLinkS.l0 k (p ++ s) a (p.length : Int) = some (a + 2 * s.length, p ++ marksLink s.length a)
  | [], p, k, a, h0, h1, h2, hk => by
    obtain ⟨k, rfl⟩ : ∃ m, k = m + 1 := ⟨k - 1, by simp at hk; omega⟩
    simp only [laws_markLinkS.l0]
    rw [if_neg (by simp)]
    simp [marksLink]
  | b :: s, p, k, a, h0, h1, h2, hk => by
    obtain ⟨k, rfl⟩ : ∃ m, k = m + 1 := ⟨k - 1, by simp at hk; omega⟩
    simp only [List.length_cons] at h1 h2 hk
    have ih := laws_markLinkS_l0 s (p ++ [(⟨a, a + 1⟩ : S191)]) k (a + 2) (by omega) (by omega) (by simp; omega) (by omega)
    simp only [laws_markLinkS.l0]
    rw [if_pos (by simp; omega), if_pos (by omega)]
    simp only [Option.bind_some, set_mid, rd_midLink]
    have w1 : wrap64 (a + 1) = a + 1 := by rw [w64 (by omega)] <;> omega
    have w2 : wrap64 (a + 1 + 1) = a + 2 := by rw [w64 (by omega)] <;> omega
    simp only [w1, w2]
    have e1 : p ++ (⟨a, a + 1⟩ : S191) :: s = (p ++ [(⟨a, a + 1⟩ : S191)]) ++ s := by simp
    have e2 : (p.length : Int) + 1 = ((p ++ [(⟨a, a + 1⟩ : S191)]).length : Int) := by simp
    rw [w64 (n := (p.length : Int) + 1) (by omega), e1, e2, ih]
    have e3 : a + 2 + 2 * (s.length : Int) = a + 2 * ((s.length + 1 : Nat) : Int) := by omega
    rw [e3]
    simp [marksLink]
theorem laws_markLinkS_eq (l : List S191) (a : Int) (h0 : 0 ≤ a) (h1 : a + 2 * l.length ≤ 1000000000) (h2 : l.length ≤ 1000000000) (k : Nat) (hk : l.length < k) : laws_markLinkS.f k l a = some (a + 2 * l.length, marksLink l.length a) := by
  unfold laws_markLinkS.f
  have := laws_markLinkS_l0 l [] k a h0 h1 (by simpa using h2) hk
  simpa using this
/-- Rows of two numbers each, from a on. -/
def marksInt64S : Nat → Int → List (List Int)
  | 0, _ => []
  | n + 1, a => marksInt64 2 a :: marksInt64S n (a + 2)
theorem marksInt64S_length : ∀ (n : Nat) (a : Int), (marksInt64S n a).length = n
  | 0, _ => rfl
  | n + 1, a => by simp [marksInt64S, marksInt64S_length n]
theorem laws_eqInt64SS_l0 (l : List (List Int)) (hl : l.length ≤ 1000000000) (h2 : ∀ x ∈ l, x.length = 2) : ∀ (d k : Nat) (i : Int), 0 ≤ i → i + d = l.length → d + 5 < k → laws_eqInt64SS.l0 k l l i = some true
  | 0, k, i, h0, h1, hk => by
    obtain ⟨k, rfl⟩ : ∃ m, k = m + 1 := ⟨k - 1, by omega⟩
    simp only [laws_eqInt64SS.l0]
    rw [if_neg (by omega)]
  | d + 1, k, i, h0, h1, hk => by
    obtain ⟨k, rfl⟩ : ∃ m, k = m + 1 := ⟨k - 1, by omega⟩
    have hx : (rd_L3 l i).length = 2 := h2 _ (by unfold rd_L3; rw [List.getD_eq_getElem?_getD, List.getElem?_eq_getElem (by omega)]; exact List.getElem_mem _)
    simp only [laws_eqInt64SS.l0]
    rw [if_pos (by omega), if_pos (by omega), if_pos (by omega), laws_eqInt64S_same _ (by omega) k (by omega), Option.bind_some]
    first | rw [if_pos trivial] | rw [if_pos rfl]
    rw [w64 (by omega)]
    exact laws_eqInt64SS_l0 l hl h2 d k (i + 1) (by omega) (by omega) (by omega)
theorem laws_eqInt64SS_same (l : List (List Int)) (hl : l.length ≤ 1000000000) (h2 : ∀ x ∈ l, x.length = 2) (k : Nat) (hk : l.length + 5 < k) : laws_eqInt64SS.f k l l = some true := by
  unfold laws_eqInt64SS.f
  rw [if_pos rfl]
  exact laws_eqInt64SS_l0 l hl h2 l.length k 0 (by omega) (by omega) hk
theorem laws_markInt64SS_l0 : ∀ (s p : List (List Int)) (k : Nat) (a : Int), 0 ≤ a → a + 2 * s.length ≤ 1000000000 → p.length + s.length ≤ 1000000000 → (∀ x ∈ s, x.length = 2) → s.length + 5 < k → laws_markInt64SS.l0 k (p ++ s) a (p.length : Int) = some (a + 2 * s.length, p ++ marksInt64S s.length a)
  | [], p, k, a, h0, h1, h2, h3, hk => by
    obtain ⟨k, rfl⟩ : ∃ m, k = m + 1 := ⟨k - 1, by simp at hk; omega⟩
    simp only [laws_markInt64SS.l0]
    rw [if_neg (by simp)]
    simp [marksInt64S]
  | b :: s, p, k, a, h0, h1, h2, h3, hk => by
    obtain ⟨k, rfl⟩ : ∃ m, k = m + 1 := ⟨k - 1, by simp at hk; omega⟩
    simp only [List.length_cons] at h1 h2 hk
    have hb : b.length = 2 := h3 b (by simp)
    have hm := laws_markInt64S_eq b a h0 (by rw [hb]; omega) (by omega) k (by omega)
    have ih := laws_markInt64SS_l0 s (p ++ [marksInt64 2 a]) k (a + 2) (by omega) (by omega) (by simp; omega) (fun x hx => h3 x (by simp [hx])) (by omega)
    simp only [laws_markInt64SS.l0]
    rw [if_pos (by simp; omega), if_pos (by omega), show rd_L3 (p ++ b :: s) (p.length : Int) = b from getD_mid _ p b s, hm, Option.bind_some]
    simp only [set_mid, hb]
    have e0 : a + 1 * ((2 : Nat) : Int) = a + 2 := by omega
    have e1 : p ++ marksInt64 2 a :: s = (p ++ [marksInt64 2 a]) ++ s := by simp
    have e2 : (p.length : Int) + 1 = ((p ++ [marksInt64 2 a]).length : Int) := by simp
    rw [w64 (n := (p.length : Int) + 1) (by omega), e0, e1, e2, ih]
    have e3 : a + 2 + 2 * (s.length : Int) = a + 2 * ((s.length + 1 : Nat) : Int) := by omega
    rw [e3]
    simp [marksInt64S]
theorem laws_markInt64SS_eq (l : List (List Int)) (a : Int) (h0 : 0 ≤ a) (h1 : a + 2 * l.length ≤ 1000000000) (h2 : l.length ≤ 1000000000) (h3 : ∀ x ∈ l, x.length = 2) (k : Nat) (hk : l.length + 5 < k) : laws_markInt64SS.f k l a = some (a + 2 * l.length, marksInt64S l.length a) := by
  unfold laws_markInt64SS.f
  have := laws_markInt64SS_l0 l [] k a h0 h1 (by simpa using h2) h3 hk
  simpa using this
theorem laws_heldInt64SS_l0 : ∀ (m : Nat) (p : List (List Int)) (k : Nat) (a : Int), 0 ≤ a → a + 2 * m ≤ 1000000000 → p.length + m ≤ 1000000000 → m + 5 < k → laws_heldInt64SS.l0 k (p ++ marksInt64S m a) a (p.length : Int) = some (a + 2 * m)
  | 0, p, k, a, h0, h1, h2, hk => by
    obtain ⟨k, rfl⟩ : ∃ m, k = m + 1 := ⟨k - 1, by omega⟩
    simp only [laws_heldInt64SS.l0]
    rw [if_neg (by simp [marksInt64S])]
    simp
  | m + 1, p, k, a, h0, h1, h2, hk => by
    obtain ⟨k, rfl⟩ : ∃ m, k = m + 1 := ⟨k - 1, by omega⟩
    have ih := laws_heldInt64SS_l0 m (p ++ [marksInt64 2 a]) k (a + 2) (by omega) (by omega) (by simp; omega) (by omega)
    have hh : laws_heldInt64S.f k (marksInt64 2 a) a = some (a + 2) := by
      have := laws_heldInt64S_eq 2 a h0 (by omega) (by omega) k (by omega)
      rw [this]
      congr 1
    rw [show p ++ marksInt64S (m + 1) a = p ++ marksInt64 2 a :: marksInt64S m (a + 2) from rfl]
    simp only [laws_heldInt64SS.l0]
    rw [if_pos (by simp; omega), if_pos (by omega), show rd_L3 (p ++ marksInt64 2 a :: marksInt64S m (a + 2)) (p.length : Int) = marksInt64 2 a from getD_mid _ p _ _, hh, Option.bind_some, if_neg (by omega)]
    have e1 : p ++ marksInt64 2 a :: marksInt64S m (a + 2) = (p ++ [marksInt64 2 a]) ++ marksInt64S m (a + 2) := by simp
    have e2 : (p.length : Int) + 1 = ((p ++ [marksInt64 2 a]).length : Int) := by simp
    rw [w64 (n := (p.length : Int) + 1) (by omega), e1, e2, ih]
    congr 1
    omega
theorem laws_heldInt64SS_eq (m : Nat) (a : Int) (h0 : 0 ≤ a) (h1 : a + 2 * m ≤ 1000000000) (h2 : m ≤ 1000000000) (k : Nat) (hk : m + 5 < k) : laws_heldInt64SS.f k (marksInt64S m a) a = some (a + 2 * m) := by
  unfold laws_heldInt64SS.f
  have := laws_heldInt64SS_l0 m [] k a h0 h1 (by simpa using h2) hk
  simpa using this
theorem laws_szLinkS_le {l : List (S193)} {a s : Int} (h : laws_szLinkS.f l a = some s) (hg : ¬ s < 0) (hl : l.length ≤ 140737488351232) (ha : -1000000000000000 ≤ a ∧ a ≤ 1000000) : (l.length : Int) ≤ a ∧ 0 ≤ s ∧ s ≤ 1000000 := by
  unfold laws_szLinkS.f at h
  rw [w64 (by omega)] at h
  split at h
  · injection h; omega
  · injection h; omega
theorem laws_szLinkS_some (l : List (S193)) (a : Int) : ∃ s, laws_szLinkS.f l a = some s := by
  unfold laws_szLinkS.f
  split
  · exact ⟨_, rfl⟩
  · exact ⟨_, rfl⟩
theorem facts (l0 : (List S193)) (q0 : (l0.length * 16 ≤ 140737488351232 ∧ ∀ x ∈ l0, (I64 x.f0 ∧ I64 x.f1))) (t1 : Int) (z0 : laws_szLinkS.f l0 1000000 = some t1) (g0 : ¬ t1 < 0) :
    ∃ (k : Nat) (m0 f0 : List S191) (t0 : Int) (kk0 : Int) (mm0 : List S191) (r1 : List (List Int)) (r2 : Int) (kr : Int) (rr : List (List Int)), full_toLinkS.f k l0 false = some f0 ∧ f0.take l0.length = m0 ∧ laws_toLinkS.f k l0 true = some m0 ∧ laws_roomBehind.f (m0.length : Int) = some t0 ∧ wrap64 ((m0.length : Int) + t0) = (f0.length : Int) ∧ laws_eqLinkS.f k f0 f0 = some true ∧ laws_markLinkS.f k m0 101 = some (kk0, mm0) ∧ ¬ kk0 < 0 ∧ spec_ChainTimes.f k m0 = some (r1, r2) ∧ impl_ChainTimes.f k m0 = some (r1, r2) ∧ laws_eqInt64SS.f k r1 r1 = some true ∧ laws_markInt64SS.f k r1 101 = some (kr, rr) ∧ r1.length = rr.length ∧ laws_heldInt64SS.f k rr 101 = some kr ∧ ¬ kr < 0 := by
  have b0 : l0.length ≤ 140737488351232 := by have := q0.1; omega
  have c0 := laws_szLinkS_le z0 g0 b0 (by omega)
  have n0 : l0.length ≤ 1000000 := by omega
  obtain ⟨K0, r1, r2, ⟨hrl, hr2⟩, hag⟩ := Pure.agree_ChainTimes (l0.map fun x => (⟨x.f0, x.f1⟩ : S191)) (by simpa using n0) (by have := q0.2; simpa using this)
  have hrl' := hrl
  exact ⟨K0 + 100000000, (l0.map fun x => (⟨x.f0, x.f1⟩ : S191)), ((l0.map fun x => (⟨x.f0, x.f1⟩ : S191)) ++ List.replicate (room l0.length) (⟨(-7000000000000000101), (-7000000000000000101)⟩ : S191)), ((room l0.length : Nat) : Int), (101 + 2 * ((l0.map fun x => (⟨x.f0, x.f1⟩ : S191)).length : Int)), (marksLink (l0.map fun x => (⟨x.f0, x.f1⟩ : S191)).length 101), r1, r2, (101 + 2 * (r1.length : Int)), (marksInt64S r1.length 101), full_toLinkS_eq l0 false (.inl rfl) n0 _ (by omega), (by rw [List.take_append_of_le_length (by simp), List.take_of_length_le (by simp)]), laws_toLinkS_bare l0 n0 _ (by omega), (by first | exact room_eq _ | (rw [List.length_map]; exact room_eq _)), (by have := room_le l0.length; rw [w64 (by (try simp only [List.length_map]); omega)]; simp), laws_eqLinkS_same _ (by have := room_le l0.length; simp; omega) _ (by have := room_le l0.length; simp; omega), laws_markLinkS_eq _ _ (by (try simp only [List.length_map]); omega) (by (try simp only [List.length_map]); omega) (by (try simp only [List.length_map]); omega) _ (by (try simp only [List.length_map]); omega), (by (try simp only [List.length_map]); omega), (hag _ (by omega)).1, (hag _ (by omega)).2, laws_eqInt64SS_same _ (by omega) hr2 _ (by omega), laws_markInt64SS_eq _ _ (by omega) (by omega) (by omega) hr2 _ (by omega), (marksInt64S_length _ _).symm, laws_heldInt64SS_eq _ _ (by omega) (by omega) (by omega) _ (by omega), (by omega)⟩
end Go.Proofs.Ytedcdhnbceaaeaa.FactsFnExactChainTimes
