/- FactsFnExactMergeTables of the law FnExactMergeTables: taken over, declaration by declaration, as far as the law leans on it (the words and the printed functions are the kit's own print). No condition but what each says. -/
import Derived.Test.YtedcdhnbceaaeaaZFnExactMergeTablesav
import Derived.Test.YtedcdhnbceaaeaaZFnExactMergeTablesax
import Derived.Test.YtedcdhnbceaaeaaZFnExactMergeTablesba
import Derived.Test.YtedcdhnbceaaeaaZFnExactMergeTablesbb
import Derived.Test.YtedcdhnbceaaeaaZFnExactMergeTablesbc
import Derived.Test.YtedcdhnbceaaeaaZFnExactMergeTablesbd
import Derived.Test.YtedcdhnbceaaeaaZFnExactMergeTablesbf
import Derived.Test.YtedcdhnbceaaeaaZFnExactMergeTablesbe
namespace Go.Proofs.Ytedcdhnbceaaeaa.FactsFnExactMergeTables
open Go.RowKit Go.Proofs.Ytedcdhnbceaaeaa.PFnExactMergeTables Go.Proofs.YtedcdhnbceaaeaaW.PrintWords Go.Proofs.YtedcdhnbceaaeaaW.PrintLast Go.Proofs.Ytedcdhnbceaaeaa.Opening
open Go.Proofs.Ytedcdhnbceaaeaa.Pure (w64)
set_option linter.unusedVariables false
set_option linter.unusedSimpArgs false
def room (n : Nat) : Nat := if n % 6 = 5 then 0 else if n % 3 = 0 then 1 else n
theorem room_le (n : Nat) : room n ≤ n + 1 := by unfold room; split <;> (try split) <;> omega
theorem room_eq (n : Nat) : laws_roomBehind.f (n : Int) = some ((room n : Nat) : Int) := by
  unfold laws_roomBehind.f room
  rw [Int.tmod_eq_emod_of_nonneg (by omega), Int.tmod_eq_emod_of_nonneg (by omega)]
  by_cases h : n % 6 = 5
  · rw [if_pos (by omega), if_pos h]; rfl
  · rw [if_neg (by omega), if_neg h]
    by_cases h2 : n % 3 = 0
    · rw [if_pos (by omega), if_pos h2]; rfl
    · rw [if_neg (by omega), if_neg h2]
theorem set_mid {α : Type} (p : List α) (b v : α) (s : List α) : (p ++ b :: s).set ((p.length : Int)).toNat v = p ++ v :: s := by
  rw [Int.toNat_natCast, List.set_append_right _ _ (Nat.le_refl _)]
  simp
theorem getD_mid {α : Type} (z : α) (p : List α) (b : α) (s : List α) : (p ++ b :: s).getD ((p.length : Int)).toNat z = b := by
  rw [Int.toNat_natCast, List.getD_eq_getElem?_getD, List.getElem?_append_right (Nat.le_refl _)]
  simp
theorem full_toDemandS_l1 (l : List S138) : ∀ (j k : Nat) (pre : List S81), l.length ≤ pre.length → pre.length + j ≤ 4000000 → j < k → full_toDemandS.l1 k l (pre ++ List.replicate j z81) (pre.length : Int) = some (pre ++ List.replicate j (⟨(-7000000000000000101), (-7000000000000000101), (-7000000000000000101)⟩ : S81))
  | 0, k, pre, h1, h2, hk => by
    obtain ⟨k, rfl⟩ : ∃ m, k = m + 1 := ⟨k - 1, by omega⟩
    simp only [full_toDemandS.l1, List.replicate_zero, List.append_nil]
    rw [if_neg (by omega), if_pos (by omega), if_pos (by omega)]
  | j + 1, k, pre, h1, h2, hk => by
    obtain ⟨k, rfl⟩ : ∃ m, k = m + 1 := ⟨k - 1, by omega⟩
    have ih := full_toDemandS_l1 l j k (pre ++ [(⟨(-7000000000000000101), (-7000000000000000101), (-7000000000000000101)⟩ : S81)]) (by simp; omega) (by simp; omega) (by omega)
    simp only [full_toDemandS.l1]
    rw [if_pos (by simp; omega)]
    simp only [laws_fillerDemand.f, Option.bind_some]
    rw [if_pos (by omega), w64 (by omega), List.replicate_succ, set_mid]
    have e1 : pre ++ (⟨(-7000000000000000101), (-7000000000000000101), (-7000000000000000101)⟩ : S81) :: List.replicate j z81 = (pre ++ [(⟨(-7000000000000000101), (-7000000000000000101), (-7000000000000000101)⟩ : S81)]) ++ List.replicate j z81 := by simp
    have e2 : (pre.length : Int) + 1 = ((pre ++ [(⟨(-7000000000000000101), (-7000000000000000101), (-7000000000000000101)⟩ : S81)]).length : Int) := by simp
    rw [e1, e2, ih]
    simp [List.replicate_succ]
theorem full_toDemandS_l0 (l : List S138) (R : Nat) (hl : l.length ≤ 1000000) (hR : R ≤ 1000001) : ∀ (s p : List S138) (k : Nat), l = p ++ s → s.length + R + 2 ≤ k → full_toDemandS.l0 k l ((p.map fun x => (⟨x.f0, x.f1, x.f2⟩ : S81)) ++ List.replicate (s.length + R) z81) (p.length : Int) = some ((l.map fun x => (⟨x.f0, x.f1, x.f2⟩ : S81)) ++ List.replicate R (⟨(-7000000000000000101), (-7000000000000000101), (-7000000000000000101)⟩ : S81))
  | [], p, k, h, hk => by
    obtain ⟨k, rfl⟩ : ∃ m, k = m + 1 := ⟨k - 1, by omega⟩
    have hp : l = p := by simpa using h
    subst hp
    simp only [full_toDemandS.l0]
    rw [if_neg (by omega)]
    have := full_toDemandS_l1 l R k (l.map fun x => (⟨x.f0, x.f1, x.f2⟩ : S81)) (by simp) (by (try simp only [List.length_map]); omega) (by simp at hk; omega)
    simpa using this
  | a :: s, p, k, h, hk => by
    obtain ⟨k, rfl⟩ : ∃ m, k = m + 1 := ⟨k - 1, by omega⟩
    have hlen : l.length = p.length + (s.length + 1) := by rw [h]; simp
    have hget : rd_T138 l (p.length : Int) = a := by rw [h]; exact getD_mid _ p a s
    have ih := full_toDemandS_l0 l R hl hR s (p ++ [a]) k (by rw [h]; simp) (by simp at hk ⊢; omega)
    simp only [full_toDemandS.l0]
    rw [if_pos (by omega), if_pos (by omega), hget]
    simp only [laws_toDemand.f, Option.bind_some]
    rw [if_pos (by simp; omega), w64 (by omega)]
    have e0 : (a :: s).length + R = (s.length + R) + 1 := by simp; omega
    have e1 : ((p.map fun x => (⟨x.f0, x.f1, x.f2⟩ : S81)) ++ List.replicate ((a :: s).length + R) z81).set ((p.length : Int)).toNat (⟨a.f0, a.f1, a.f2⟩ : S81) = ((p ++ [a]).map fun x => (⟨x.f0, x.f1, x.f2⟩ : S81)) ++ List.replicate (s.length + R) z81 := by
      rw [e0, List.replicate_succ]
      have := set_mid (p.map fun x => (⟨x.f0, x.f1, x.f2⟩ : S81)) z81 (⟨a.f0, a.f1, a.f2⟩ : S81) (List.replicate (s.length + R) z81)
      (try simp only [List.length_map] at this)
      rw [this]
      simp
    have e2 : (p.length : Int) + 1 = ((p ++ [a]).length : Int) := by simp
    rw [e1, e2, ih]
theorem full_toDemandS_eq (l : List S138) (b : Bool) (hb : b = false ∨ l ≠ []) (hl : l.length ≤ 1000000) (k : Nat) (hk : 2 * l.length + 10 ≤ k) : full_toDemandS.f k l b = some ((l.map fun x => (⟨x.f0, x.f1, x.f2⟩ : S81)) ++ List.replicate (room l.length) (⟨(-7000000000000000101), (-7000000000000000101), (-7000000000000000101)⟩ : S81)) := by
  obtain ⟨k, rfl⟩ : ∃ m, k = m + 1 := ⟨k - 1, by omega⟩
  have hr := room_le l.length
  have e : full_toDemandS.f (k + 1) l b = full_toDemandS.j0 (k + 1) l false := by
    unfold full_toDemandS.f
    cases b with
    | false => rfl
    | true =>
      have hn : l ≠ [] := by simpa using hb
      have : ((l.length : Int) == 0) = false := by
        cases l with
        | nil => exact absurd rfl hn
        | cons a s => simp; omega
      rw [if_pos rfl, this]
  rw [e]
  simp only [full_toDemandS.j0]
  rw [if_neg (by decide), room_eq, Option.bind_some, w64 (by omega), if_pos (by omega), if_pos (by omega)]
  have := full_toDemandS_l0 l (room l.length) hl (by omega) l [] k (by simp) (by omega)
  have e3 : ((l.length : Int) + (room l.length : Int)).toNat = l.length + room l.length := by omega
  rw [e3]
  simpa using this
theorem laws_toDemandS_l1 (l : List S138) : ∀ (j k : Nat) (pre : List S81), l.length ≤ pre.length → pre.length + j ≤ 4000000 → j < k → laws_toDemandS.l1 k l (pre ++ List.replicate j z81) (pre.length : Int) = some ((pre ++ List.replicate j (⟨(-7000000000000000101), (-7000000000000000101), (-7000000000000000101)⟩ : S81)).take l.length)
  | 0, k, pre, h1, h2, hk => by
    obtain ⟨k, rfl⟩ : ∃ m, k = m + 1 := ⟨k - 1, by omega⟩
    simp only [laws_toDemandS.l1, List.replicate_zero, List.append_nil]
    rw [if_neg (by omega), if_pos (by omega), if_pos (by omega)]
    rw [Int.toNat_natCast]
  | j + 1, k, pre, h1, h2, hk => by
    obtain ⟨k, rfl⟩ : ∃ m, k = m + 1 := ⟨k - 1, by omega⟩
    have ih := laws_toDemandS_l1 l j k (pre ++ [(⟨(-7000000000000000101), (-7000000000000000101), (-7000000000000000101)⟩ : S81)]) (by simp; omega) (by simp; omega) (by omega)
    simp only [laws_toDemandS.l1]
    rw [if_pos (by simp; omega)]
    simp only [laws_fillerDemand.f, Option.bind_some]
    rw [if_pos (by omega), w64 (by omega), List.replicate_succ, set_mid]
    have e1 : pre ++ (⟨(-7000000000000000101), (-7000000000000000101), (-7000000000000000101)⟩ : S81) :: List.replicate j z81 = (pre ++ [(⟨(-7000000000000000101), (-7000000000000000101), (-7000000000000000101)⟩ : S81)]) ++ List.replicate j z81 := by simp
    have e2 : (pre.length : Int) + 1 = ((pre ++ [(⟨(-7000000000000000101), (-7000000000000000101), (-7000000000000000101)⟩ : S81)]).length : Int) := by simp
    rw [e1, e2, ih]
    simp [List.replicate_succ]
theorem laws_toDemandS_l0 (l : List S138) (R : Nat) (hl : l.length ≤ 1000000) (hR : R ≤ 1000001) : ∀ (s p : List S138) (k : Nat), l = p ++ s → s.length + R + 2 ≤ k → laws_toDemandS.l0 k l ((p.map fun x => (⟨x.f0, x.f1, x.f2⟩ : S81)) ++ List.replicate (s.length + R) z81) (p.length : Int) = some (((l.map fun x => (⟨x.f0, x.f1, x.f2⟩ : S81)) ++ List.replicate R (⟨(-7000000000000000101), (-7000000000000000101), (-7000000000000000101)⟩ : S81)).take l.length)
  | [], p, k, h, hk => by
    obtain ⟨k, rfl⟩ : ∃ m, k = m + 1 := ⟨k - 1, by omega⟩
    have hp : l = p := by simpa using h
    subst hp
    simp only [laws_toDemandS.l0]
    rw [if_neg (by omega)]
    have := laws_toDemandS_l1 l R k (l.map fun x => (⟨x.f0, x.f1, x.f2⟩ : S81)) (by simp) (by (try simp only [List.length_map]); omega) (by simp at hk; omega)
    simpa using this
  | a :: s, p, k, h, hk => by
    obtain ⟨k, rfl⟩ : ∃ m, k = m + 1 := ⟨k - 1, by omega⟩
    have hlen : l.length = p.length + (s.length + 1) := by rw [h]; simp
    have hget : rd_T138 l (p.length : Int) = a := by rw [h]; exact getD_mid _ p a s
    have ih := laws_toDemandS_l0 l R hl hR s (p ++ [a]) k (by rw [h]; simp) (by simp at hk ⊢; omega)
    simp only [laws_toDemandS.l0]
    rw [if_pos (by omega), if_pos (by omega), hget]
    simp only [laws_toDemand.f, Option.bind_some]
    rw [if_pos (by simp; omega), w64 (by omega)]
    have e0 : (a :: s).length + R = (s.length + R) + 1 := by simp; omega
    have e1 : ((p.map fun x => (⟨x.f0, x.f1, x.f2⟩ : S81)) ++ List.replicate ((a :: s).length + R) z81).set ((p.length : Int)).toNat (⟨a.f0, a.f1, a.f2⟩ : S81) = ((p ++ [a]).map fun x => (⟨x.f0, x.f1, x.f2⟩ : S81)) ++ List.replicate (s.length + R) z81 := by
      rw [e0, List.replicate_succ]
      have := set_mid (p.map fun x => (⟨x.f0, x.f1, x.f2⟩ : S81)) z81 (⟨a.f0, a.f1, a.f2⟩ : S81) (List.replicate (s.length + R) z81)
      (try simp only [List.length_map] at this)
      rw [this]
      simp
    have e2 : (p.length : Int) + 1 = ((p ++ [a]).length : Int) := by simp
    rw [e1, e2, ih]
theorem laws_toDemandS_eq (l : List S138) (b : Bool) (hb : b = false ∨ l ≠ []) (hl : l.length ≤ 1000000) (k : Nat) (hk : 2 * l.length + 10 ≤ k) : laws_toDemandS.f k l b = some (((l.map fun x => (⟨x.f0, x.f1, x.f2⟩ : S81)) ++ List.replicate (room l.length) (⟨(-7000000000000000101), (-7000000000000000101), (-7000000000000000101)⟩ : S81)).take l.length) := by
  obtain ⟨k, rfl⟩ : ∃ m, k = m + 1 := ⟨k - 1, by omega⟩
  have hr := room_le l.length
  have e : laws_toDemandS.f (k + 1) l b = laws_toDemandS.j0 (k + 1) l false := by
    unfold laws_toDemandS.f
    cases b with
    | false => rfl
    | true =>
      have hn : l ≠ [] := by simpa using hb
      have : ((l.length : Int) == 0) = false := by
        cases l with
        | nil => exact absurd rfl hn
        | cons a s => simp; omega
      rw [if_pos rfl, this]
  rw [e]
  simp only [laws_toDemandS.j0]
  rw [if_neg (by decide), room_eq, Option.bind_some, w64 (by omega), if_pos (by omega), if_pos (by omega)]
  have := laws_toDemandS_l0 l (room l.length) hl (by omega) l [] k (by simp) (by omega)
  have e3 : ((l.length : Int) + (room l.length : Int)).toNat = l.length + room l.length := by omega
  rw [e3]
  simpa using this
theorem laws_toDemandS_bare (l : List S138) (hl : l.length ≤ 1000000) (k : Nat) (hk : 2 * l.length + 10 ≤ k) : laws_toDemandS.f k l true = some (l.map fun x => (⟨x.f0, x.f1, x.f2⟩ : S81)) := by
  cases l with
  | nil =>
    obtain ⟨k, rfl⟩ : ∃ m, k = m + 1 := ⟨k - 1, by omega⟩
    simp [laws_toDemandS.f, laws_toDemandS.j0]
  | cons a s =>
    rw [laws_toDemandS_eq (a :: s) true (.inr (by simp)) hl k hk]
    congr 1
    rw [List.take_append_of_le_length (by simp), List.take_of_length_le (by simp)]
theorem laws_eqDemandS_l0 (l : List S81) (hl : l.length ≤ 1000000000) : ∀ (d k : Nat) (i : Int), 0 ≤ i → i + d = l.length → d < k → laws_eqDemandS.l0 k l l i = some true
  | 0, k, i, h0, h1, hk => by
    obtain ⟨k, rfl⟩ : ∃ m, k = m + 1 := ⟨k - 1, by omega⟩
    simp only [laws_eqDemandS.l0]
    rw [if_neg (by omega)]
  | d + 1, k, i, h0, h1, hk => by
    obtain ⟨k, rfl⟩ : ∃ m, k = m + 1 := ⟨k - 1, by omega⟩
    simp only [laws_eqDemandS.l0]
    rw [if_pos (by omega), if_pos (by omega), if_pos (by omega)]
    have e0 : laws_eqDemand.f (rd_T81 l i).f0 (rd_T81 l i).f1 (rd_T81 l i).f2 (rd_T81 l i).f0 (rd_T81 l i).f1 (rd_T81 l i).f2 = some true := by unfold laws_eqDemand.f; simp
    rw [e0, Option.bind_some]
    first | rw [if_pos trivial] | rw [if_pos rfl]
    rw [w64 (by omega)]
    exact laws_eqDemandS_l0 l hl d k (i + 1) (by omega) (by omega) (by omega)
theorem laws_eqDemandS_same (l : List S81) (hl : l.length ≤ 1000000000) (k : Nat) (hk : l.length < k) : laws_eqDemandS.f k l l = some true := by
  unfold laws_eqDemandS.f
  rw [if_pos rfl]
  exact laws_eqDemandS_l0 l hl l.length k 0 (by omega) (by omega) hk
/-- The numbers from a on, field by field. -/
def marksDemand : Nat → Int → List S81
  | 0, _ => []
  | n + 1, a => (⟨a, a + 1, a + 2⟩ : S81) :: marksDemand n (a + 3)
theorem marksDemand_length : ∀ (n : Nat) (a : Int), (marksDemand n a).length = n
  | 0, _ => rfl
  | n + 1, a => by simp [marksDemand, marksDemand_length n]
theorem rd_midDemand (p : List S81) (b : S81) (s : List S81) : rd_T81 (p ++ b :: s) (p.length : Int) = b := getD_mid _ p b s
theorem laws_markDemandS_l0 : ∀ (s p : List S81) (k : Nat) (a : Int), 0 ≤ a → a + 3 * s.length ≤ 1000000000 → p.length + s.length ≤ 1000000000 → s.length < k → laws_markDemandS.l0 k (p ++ s) a (p.length : Int) = some (a + 3 * s.length, p ++ marksDemand s.length a)
  | [], p, k, a, h0, h1, h2, hk => by
    obtain ⟨k, rfl⟩ : ∃ m, k = m + 1 := ⟨k - 1, by simp at hk; omega⟩
    simp only [laws_markDemandS.l0]
    rw [if_neg (by simp)]
    simp [marksDemand]
  | b :: s, p, k, a, h0, h1, h2, hk => by
    obtain ⟨k, rfl⟩ : ∃ m, k = m + 1 := ⟨k - 1, by simp at hk; omega⟩
    simp only [List.length_cons] at h1 h2 hk
    have ih := laws_markDemandS_l0 s (p ++ [(⟨a, a + 1, a + 2⟩ : S81)]) k (a + 3) (by omega) (by omega) (by simp; omega) (by omega)
    simp only [laws_markDemandS.l0]
    rw [if_pos (by simp; omega), if_pos (by omega)]
    simp only [Option.bind_some, set_mid, rd_midDemand]
    have w1 : wrap64 (a + 1) = a + 1 := by rw [w64 (by omega)] <;> omega
    have w2 : wrap64 (a + 1 + 1) = a + 2 := by rw [w64 (by omega)] <;> omega
    have w3 : wrap64 (a + 2 + 1) = a + 3 := by rw [w64 (by omega)] <;> omega
    simp only [w1, w2, w3]
    have e1 : p ++ (⟨a, a + 1, a + 2⟩ : S81) :: s = (p ++ [(⟨a, a + 1, a + 2⟩ : S81)]) ++ s := by simp
    have e2 : (p.length : Int) + 1 = ((p ++ [(⟨a, a + 1, a + 2⟩ : S81)]).length : Int) := by simp
    rw [w64 (n := (p.length : Int) + 1) (by omega), e1, e2, ih]
    have e3 : a + 3 + 3 * (s.length : Int) = a + 3 * ((s.length + 1 : Nat) : Int) := by omega
    rw [e3]
    simp [marksDemand]
theorem laws_markDemandS_eq (l : List S81) (a : Int) (h0 : 0 ≤ a) (h1 : a + 3 * l.length ≤ 1000000000) (h2 : l.length ≤ 1000000000) (k : Nat) (hk : l.length < k) : laws_markDemandS.f k l a = some (a + 3 * l.length, marksDemand l.length a) := by
  unfold laws_markDemandS.f
  have := laws_markDemandS_l0 l [] k a h0 h1 (by simpa using h2) hk
  simpa using this
theorem laws_heldDemandS_l0 : ∀ (m : Nat) (p : List S81) (k : Nat) (a : Int), 0 ≤ a → a + 3 * m ≤ 1000000000 → p.length + m ≤ 1000000000 → m < k → laws_heldDemandS.l0 k (p ++ marksDemand m a) a (p.length : Int) = some (a + 3 * m)
  | 0, p, k, a, h0, h1, h2, hk => by
    obtain ⟨k, rfl⟩ : ∃ m, k = m + 1 := ⟨k - 1, by omega⟩
    simp only [laws_heldDemandS.l0]
    rw [if_neg (by simp [marksDemand])]
    simp
  | m + 1, p, k, a, h0, h1, h2, hk => by
    obtain ⟨k, rfl⟩ : ∃ m, k = m + 1 := ⟨k - 1, by omega⟩
    have ih := laws_heldDemandS_l0 m (p ++ [(⟨a, a + 1, a + 2⟩ : S81)]) k (a + 3) (by omega) (by omega) (by simp; omega) (by omega)
    rw [show p ++ marksDemand (m + 1) a = p ++ (⟨a, a + 1, a + 2⟩ : S81) :: marksDemand m (a + 3) from rfl]
    simp only [laws_heldDemandS.l0]
    rw [if_pos (by simp; omega), if_pos (by omega)]
    simp only [rd_midDemand]
    have w1 : wrap64 (a + 1) = a + 1 := by rw [w64 (by omega)] <;> omega
    have w2 : wrap64 (a + 1 + 1) = a + 2 := by rw [w64 (by omega)] <;> omega
    have w3 : wrap64 (a + 2 + 1) = a + 3 := by rw [w64 (by omega)] <;> omega
    simp only [w1, w2, w3]
    have e1 : p ++ (⟨a, a + 1, a + 2⟩ : S81) :: marksDemand m (a + 3) = (p ++ [(⟨a, a + 1, a + 2⟩ : S81)]) ++ marksDemand m (a + 3) := by simp
    have e2 : (p.length : Int) + 1 = ((p ++ [(⟨a, a + 1, a + 2⟩ : S81)]).length : Int) := by simp
    rw [w64 (n := (p.length : Int) + 1) (by omega), e1, e2]
    simp only [if_true]
    rw [ih]
    congr 1
    omega
theorem laws_heldDemandS_eq (m : Nat) (a : Int) (h0 : 0 ≤ a) (h1 : a + 3 * m ≤ 1000000000) (h2 : m ≤ 1000000000) (k : Nat) (hk : m < k) : laws_heldDemandS.f k (marksDemand m a) a = some (a + 3 * m) := by
  unfold laws_heldDemandS.f
  have := laws_heldDemandS_l0 m [] k a h0 h1 (by simpa using h2) hk
  simpa using this
theorem laws_szDemandS_le {l : List (S138)} {a s : Int} (h : laws_szDemandS.f l a = some s) (hg : ¬ s < 0) (hl : l.length ≤ 140737488351232) (ha : -1000000000000000 ≤ a ∧ a ≤ 1000000) : (l.length : Int) ≤ a ∧ 0 ≤ s ∧ s ≤ 1000000 := by
  unfold laws_szDemandS.f at h
  rw [w64 (by omega)] at h
  split at h
  · injection h; omega
  · injection h; omega
theorem laws_szDemandS_some (l : List (S138)) (a : Int) : ∃ s, laws_szDemandS.f l a = some s := by
  unfold laws_szDemandS.f
  split
  · exact ⟨_, rfl⟩
  · exact ⟨_, rfl⟩
theorem facts (l0 : (List S138)) (l1 : (List S138)) (q0 : (l0.length * 24 ≤ 140737488351232 ∧ ∀ x ∈ l0, (I64 x.f0 ∧ I64 x.f1 ∧ I64 x.f2))) (q1 : (l1.length * 24 ≤ 140737488351232 ∧ ∀ x ∈ l1, (I64 x.f0 ∧ I64 x.f1 ∧ I64 x.f2))) (t298 : Int) (z0 : laws_szDemandS.f l0 1000000 = some t298) (g0 : ¬ t298 < 0) (t299 : Int) (z1 : laws_szDemandS.f l1 t298 = some t299) (g1 : ¬ t299 < 0) :
    ∃ (k : Nat) (m0 f0 : List S81) (t0 : Int) (m1 f1 : List S81) (t1 : Int) (kk0 : Int) (mm0 : List S81) (kk1 : Int) (mm1 : List S81) (r1 : List (S81)) (r2 : Int) (kr : Int) (rr : List S81), full_toDemandS.f k l0 false = some f0 ∧ f0.take l0.length = m0 ∧ laws_toDemandS.f k l0 true = some m0 ∧ laws_roomBehind.f (m0.length : Int) = some t0 ∧ wrap64 ((m0.length : Int) + t0) = (f0.length : Int) ∧ laws_eqDemandS.f k f0 f0 = some true ∧ full_toDemandS.f k l1 false = some f1 ∧ f1.take l1.length = m1 ∧ laws_toDemandS.f k l1 true = some m1 ∧ laws_roomBehind.f (m1.length : Int) = some t1 ∧ wrap64 ((m1.length : Int) + t1) = (f1.length : Int) ∧ laws_eqDemandS.f k f1 f1 = some true ∧ laws_markDemandS.f k m0 101 = some (kk0, mm0) ∧ laws_markDemandS.f k m1 kk0 = some (kk1, mm1) ∧ ¬ kk1 < 0 ∧ spec_MergeTables.f k m0 m1 = some (r1, r2) ∧ impl_MergeTables.f k m0 m1 = some (r1, r2) ∧ laws_eqDemandS.f k r1 r1 = some true ∧ laws_markDemandS.f k r1 101 = some (kr, rr) ∧ r1.length = rr.length ∧ laws_heldDemandS.f k rr 101 = some kr ∧ ¬ kr < 0 := by
  have b0 : l0.length ≤ 140737488351232 := by have := q0.1; omega
  have b1 : l1.length ≤ 140737488351232 := by have := q1.1; omega
  have c0 := laws_szDemandS_le z0 g0 b0 (by omega)
  have c1 := laws_szDemandS_le z1 g1 b1 (by omega)
  have n0 : l0.length ≤ 1000000 := by omega
  have n1 : l1.length ≤ 1000000 := by omega
  obtain ⟨K0, r1, r2, hrl, hag⟩ := Pure.agree_MergeTables (l0.map fun x => (⟨x.f0, x.f1, x.f2⟩ : S81)) (l1.map fun x => (⟨x.f0, x.f1, x.f2⟩ : S81)) (by simpa using n0) (by have := q0.2; simpa using this) (by simpa using n1) (by have := q1.2; simpa using this)
  have hrl' := hrl
  exact ⟨K0 + 100000000, (l0.map fun x => (⟨x.f0, x.f1, x.f2⟩ : S81)), ((l0.map fun x => (⟨x.f0, x.f1, x.f2⟩ : S81)) ++ List.replicate (room l0.length) (⟨(-7000000000000000101), (-7000000000000000101), (-7000000000000000101)⟩ : S81)), ((room l0.length : Nat) : Int), (l1.map fun x => (⟨x.f0, x.f1, x.f2⟩ : S81)), ((l1.map fun x => (⟨x.f0, x.f1, x.f2⟩ : S81)) ++ List.replicate (room l1.length) (⟨(-7000000000000000101), (-7000000000000000101), (-7000000000000000101)⟩ : S81)), ((room l1.length : Nat) : Int), (101 + 3 * ((l0.map fun x => (⟨x.f0, x.f1, x.f2⟩ : S81)).length : Int)), (marksDemand (l0.map fun x => (⟨x.f0, x.f1, x.f2⟩ : S81)).length 101), ((101 + 3 * ((l0.map fun x => (⟨x.f0, x.f1, x.f2⟩ : S81)).length : Int)) + 3 * ((l1.map fun x => (⟨x.f0, x.f1, x.f2⟩ : S81)).length : Int)), (marksDemand (l1.map fun x => (⟨x.f0, x.f1, x.f2⟩ : S81)).length (101 + 3 * ((l0.map fun x => (⟨x.f0, x.f1, x.f2⟩ : S81)).length : Int))), r1, r2, (101 + 3 * (r1.length : Int)), (marksDemand r1.length 101), full_toDemandS_eq l0 false (.inl rfl) n0 _ (by omega), (by rw [List.take_append_of_le_length (by simp), List.take_of_length_le (by simp)]), laws_toDemandS_bare l0 n0 _ (by omega), (by first | exact room_eq _ | (rw [List.length_map]; exact room_eq _)), (by have := room_le l0.length; rw [w64 (by (try simp only [List.length_map]); omega)]; simp), laws_eqDemandS_same _ (by have := room_le l0.length; simp; omega) _ (by have := room_le l0.length; simp; omega), full_toDemandS_eq l1 false (.inl rfl) n1 _ (by omega), (by rw [List.take_append_of_le_length (by simp), List.take_of_length_le (by simp)]), laws_toDemandS_bare l1 n1 _ (by omega), (by first | exact room_eq _ | (rw [List.length_map]; exact room_eq _)), (by have := room_le l1.length; rw [w64 (by (try simp only [List.length_map]); omega)]; simp), laws_eqDemandS_same _ (by have := room_le l1.length; simp; omega) _ (by have := room_le l1.length; simp; omega), laws_markDemandS_eq _ _ (by (try simp only [List.length_map]); omega) (by (try simp only [List.length_map]); omega) (by (try simp only [List.length_map]); omega) _ (by (try simp only [List.length_map]); omega), laws_markDemandS_eq _ _ (by (try simp only [List.length_map]); omega) (by (try simp only [List.length_map]); omega) (by (try simp only [List.length_map]); omega) _ (by (try simp only [List.length_map]); omega), (by (try simp only [List.length_map]); omega), (hag _ (by omega)).1, (hag _ (by omega)).2, laws_eqDemandS_same _ (by omega) _ (by omega), laws_markDemandS_eq _ _ (by omega) (by omega) (by omega) _ (by omega), (marksDemand_length _ _).symm, laws_heldDemandS_eq _ _ (by omega) (by omega) (by omega) _ (by omega), (by omega)⟩
end Go.Proofs.Ytedcdhnbceaaeaa.FactsFnExactMergeTables
