/- FactsFnExactWorstPins of the law FnExactWorstPins: taken over, declaration by declaration, as far as the law leans on it (the words and the printed functions are the kit's own print). No condition but what each says. -/
import Derived.Test.YtmahecjbejffoaaZFnExactWorstPinsbh
import Derived.Test.YtmahecjbejffoaaZFnExactWorstPinsbi
namespace Go.Proofs.Ytmahecjbejffoaa.FactsFnExactWorstPins
open Go.RowKit Go.Proofs.Ytmahecjbejffoaa.PFnExactWorstPins Go.Proofs.YtmahecjbejffoaaW.PrintWords Go.Proofs.YtmahecjbejffoaaW.PrintLast Go.Proofs.YtmahecjbejffoaaW.PrintMore Go.Proofs.Ytmahecjbejffoaa.Opening Go.Proofs.Ytmahecjbejffoaa.Owned
open Go.Proofs.Ytmahecjbejffoaa.Pure (w64)
set_option linter.unusedVariables false
set_option linter.unusedSimpArgs false
def room (n : Nat) : Nat := if n % 6 = 5 then 0 else if n % 3 = 0 then 1 else n
theorem room_le (n : Nat) : room n ≤ n + 1 := by unfold room; split <;> (try split) <;> omega
theorem room_eq (n : Nat) : laws_roomBehind.f (n : Int) = some ((room n : Nat) : Int) := by
  unfold laws_roomBehind.f room
  rw [Int.tmod_eq_emod_of_nonneg (by omega), Int.tmod_eq_emod_of_nonneg (by omega)]
  by_cases h : n % 6 = 5
  · rw [if_pos (by omega), if_pos h]; rfl
  · rw [if_neg (by omega), if_neg h]
    by_cases h2 : n % 3 = 0
    · rw [if_pos (by omega), if_pos h2]; rfl
    · rw [if_neg (by omega), if_neg h2]
theorem set_mid {α : Type} (p : List α) (b v : α) (s : List α) : (p ++ b :: s).set ((p.length : Int)).toNat v = p ++ v :: s := by
  rw [Int.toNat_natCast, List.set_append_right _ _ (Nat.le_refl _)]
  simp
theorem getD_mid {α : Type} (z : α) (p : List α) (b : α) (s : List α) : (p ++ b :: s).getD ((p.length : Int)).toNat z = b := by
  rw [Int.toNat_natCast, List.getD_eq_getElem?_getD, List.getElem?_append_right (Nat.le_refl _)]
  simp
theorem full_toInt64S_l1 (l : List Int) : ∀ (j k : Nat) (pre : List Int), l.length ≤ pre.length → pre.length + j ≤ 4000000 → j < k → full_toInt64S.l1 k l (pre ++ List.replicate j 0) (pre.length : Int) = some (pre ++ List.replicate j (-7000000000000000101))
  | 0, k, pre, h1, h2, hk => by
    obtain ⟨k, rfl⟩ : ∃ m, k = m + 1 := ⟨k - 1, by omega⟩
    simp only [full_toInt64S.l1, List.replicate_zero, List.append_nil]
    rw [if_neg (by omega), if_pos (by omega), if_pos (by omega)]
  | j + 1, k, pre, h1, h2, hk => by
    obtain ⟨k, rfl⟩ : ∃ m, k = m + 1 := ⟨k - 1, by omega⟩
    have ih := full_toInt64S_l1 l j k (pre ++ [(-7000000000000000101)]) (by simp; omega) (by simp; omega) (by omega)
    simp only [full_toInt64S.l1]
    rw [if_pos (by simp; omega)]
    rw [if_pos (by omega), w64 (by omega), List.replicate_succ, set_mid]
    have e1 : pre ++ (-7000000000000000101) :: List.replicate j 0 = (pre ++ [(-7000000000000000101)]) ++ List.replicate j 0 := by simp
    have e2 : (pre.length : Int) + 1 = ((pre ++ [(-7000000000000000101)]).length : Int) := by simp
    rw [e1, e2, ih]
    simp [List.replicate_succ]
theorem full_toInt64S_l0 (l : List Int) (R : Nat) (hl : l.length ≤ 1000000) (hR : R ≤ 1000001) : ∀ (s p : List Int) (k : Nat), l = p ++ s → s.length + R + 2 ≤ k → full_toInt64S.l0 k l (p ++ List.replicate (s.length + R) 0) (p.length : Int) = some (l ++ List.replicate R (-7000000000000000101))
  | [], p, k, h, hk => by
    obtain ⟨k, rfl⟩ : ∃ m, k = m + 1 := ⟨k - 1, by omega⟩
    have hp : l = p := by simpa using h
    subst hp
    simp only [full_toInt64S.l0]
    rw [if_neg (by omega)]
    have := full_toInt64S_l1 l R k l (by simp) (by (try simp only [List.length_map]); omega) (by simp at hk; omega)
    simpa using this
  | a :: s, p, k, h, hk => by
    obtain ⟨k, rfl⟩ : ∃ m, k = m + 1 := ⟨k - 1, by omega⟩
    have hlen : l.length = p.length + (s.length + 1) := by rw [h]; simp
    have hget : rd l (p.length : Int) = a := by rw [h]; exact getD_mid _ p a s
    have ih := full_toInt64S_l0 l R hl hR s (p ++ [a]) k (by rw [h]; simp) (by simp at hk ⊢; omega)
    simp only [full_toInt64S.l0]
    rw [if_pos (by omega), if_pos (by omega), hget]
    rw [if_pos (by simp; omega), w64 (by omega)]
    have e0 : (a :: s).length + R = (s.length + R) + 1 := by simp; omega
    have e1 : (p ++ List.replicate ((a :: s).length + R) 0).set ((p.length : Int)).toNat a = (p ++ [a]) ++ List.replicate (s.length + R) 0 := by
      rw [e0, List.replicate_succ]
      have := set_mid p 0 a (List.replicate (s.length + R) 0)
      (try simp only [List.length_map] at this)
      rw [this]
      simp
    have e2 : (p.length : Int) + 1 = ((p ++ [a]).length : Int) := by simp
    rw [e1, e2, ih]
theorem full_toInt64S_eq (l : List Int) (b : Bool) (hb : b = false ∨ l ≠ []) (hl : l.length ≤ 1000000) (k : Nat) (hk : 2 * l.length + 10 ≤ k) : full_toInt64S.f k l b = some (l ++ List.replicate (room l.length) (-7000000000000000101)) := by
  obtain ⟨k, rfl⟩ : ∃ m, k = m + 1 := ⟨k - 1, by omega⟩
  have hr := room_le l.length
  have e : full_toInt64S.f (k + 1) l b = full_toInt64S.j0 (k + 1) l false := by
    unfold full_toInt64S.f
    cases b with
    | false => rfl
    | true =>
      have hn : l ≠ [] := by simpa using hb
      have : ((l.length : Int) == 0) = false := by
        cases l with
        | nil => exact absurd rfl hn
        | cons a s => simp; omega
      rw [if_pos rfl, this]
  rw [e]
  simp only [full_toInt64S.j0]
  rw [if_neg (by decide), room_eq, Option.bind_some, w64 (by omega), if_pos (by omega), if_pos (by omega)]
  have := full_toInt64S_l0 l (room l.length) hl (by omega) l [] k (by simp) (by omega)
  have e3 : ((l.length : Int) + (room l.length : Int)).toNat = l.length + room l.length := by omega
  rw [e3]
  simpa using this
theorem laws_toInt64S_l1 (l : List Int) : ∀ (j k : Nat) (pre : List Int), l.length ≤ pre.length → pre.length + j ≤ 4000000 → j < k → laws_toInt64S.l1 k l (pre ++ List.replicate j 0) (pre.length : Int) = some ((pre ++ List.replicate j (-7000000000000000101)).take l.length)
  | 0, k, pre, h1, h2, hk => by
    obtain ⟨k, rfl⟩ : ∃ m, k = m + 1 := ⟨k - 1, by omega⟩
    simp only [laws_toInt64S.l1, List.replicate_zero, List.append_nil]
    rw [if_neg (by omega), if_pos (by omega), if_pos (by omega)]
    rw [Int.toNat_natCast]
  | j + 1, k, pre, h1, h2, hk => by
    obtain ⟨k, rfl⟩ : ∃ m, k = m + 1 := ⟨k - 1, by omega⟩
    have ih := laws_toInt64S_l1 l j k (pre ++ [(-7000000000000000101)]) (by simp; omega) (by simp; omega) (by omega)
    simp only [laws_toInt64S.l1]
    rw [if_pos (by simp; omega)]
    rw [if_pos (by omega), w64 (by omega), List.replicate_succ, set_mid]
    have e1 : pre ++ (-7000000000000000101) :: List.replicate j 0 = (pre ++ [(-7000000000000000101)]) ++ List.replicate j 0 := by simp
    have e2 : (pre.length : Int) + 1 = ((pre ++ [(-7000000000000000101)]).length : Int) := by simp
    rw [e1, e2, ih]
    simp [List.replicate_succ]
theorem laws_toInt64S_l0 (l : List Int) (R : Nat) (hl : l.length ≤ 1000000) (hR : R ≤ 1000001) : ∀ (s p : List Int) (k : Nat), l = p ++ s → s.length + R + 2 ≤ k → laws_toInt64S.l0 k l (p ++ List.replicate (s.length + R) 0) (p.length : Int) = some ((l ++ List.replicate R (-7000000000000000101)).take l.length)
  | [], p, k, h, hk => by
    obtain ⟨k, rfl⟩ : ∃ m, k = m + 1 := ⟨k - 1, by omega⟩
    have hp : l = p := by simpa using h
    subst hp
    simp only [laws_toInt64S.l0]
    rw [if_neg (by omega)]
    have := laws_toInt64S_l1 l R k l (by simp) (by (try simp only [List.length_map]); omega) (by simp at hk; omega)
    simpa using this
  | a :: s, p, k, h, hk => by
    obtain ⟨k, rfl⟩ : ∃ m, k = m + 1 := ⟨k - 1, by omega⟩
    have hlen : l.length = p.length + (s.length + 1) := by rw [h]; simp
    have hget : rd l (p.length : Int) = a := by rw [h]; exact getD_mid _ p a s
    have ih := laws_toInt64S_l0 l R hl hR s (p ++ [a]) k (by rw [h]; simp) (by simp at hk ⊢; omega)
    simp only [laws_toInt64S.l0]
    rw [if_pos (by omega), if_pos (by omega), hget]
    rw [if_pos (by simp; omega), w64 (by omega)]
    have e0 : (a :: s).length + R = (s.length + R) + 1 := by simp; omega
    have e1 : (p ++ List.replicate ((a :: s).length + R) 0).set ((p.length : Int)).toNat a = (p ++ [a]) ++ List.replicate (s.length + R) 0 := by
      rw [e0, List.replicate_succ]
      have := set_mid p 0 a (List.replicate (s.length + R) 0)
      (try simp only [List.length_map] at this)
      rw [this]
      simp
    have e2 : (p.length : Int) + 1 = ((p ++ [a]).length : Int) := by simp
    rw [e1, e2, ih]
theorem laws_toInt64S_eq (l : List Int) (b : Bool) (hb : b = false ∨ l ≠ []) (hl : l.length ≤ 1000000) (k : Nat) (hk : 2 * l.length + 10 ≤ k) : laws_toInt64S.f k l b = some ((l ++ List.replicate (room l.length) (-7000000000000000101)).take l.length) := by
  obtain ⟨k, rfl⟩ : ∃ m, k = m + 1 := ⟨k - 1, by omega⟩
  have hr := room_le l.length
  have e : laws_toInt64S.f (k + 1) l b = laws_toInt64S.j0 (k + 1) l false := by
    unfold laws_toInt64S.f
    cases b with
    | false => rfl
    | true =>
      have hn : l ≠ [] := by simpa using hb
      have : ((l.length : Int) == 0) = false := by
        cases l with
        | nil => exact absurd rfl hn
        | cons a s => simp; omega
      rw [if_pos rfl, this]
  rw [e]
  simp only [laws_toInt64S.j0]
  rw [if_neg (by decide), room_eq, Option.bind_some, w64 (by omega), if_pos (by omega), if_pos (by omega)]
  have := laws_toInt64S_l0 l (room l.length) hl (by omega) l [] k (by simp) (by omega)
  have e3 : ((l.length : Int) + (room l.length : Int)).toNat = l.length + room l.length := by omega
  rw [e3]
  simpa using this
theorem laws_toInt64S_bare (l : List Int) (hl : l.length ≤ 1000000) (k : Nat) (hk : 2 * l.length + 10 ≤ k) : laws_toInt64S.f k l true = some l := by
  cases l with
  | nil =>
    obtain ⟨k, rfl⟩ : ∃ m, k = m + 1 := ⟨k - 1, by omega⟩
    simp [laws_toInt64S.f, laws_toInt64S.j0]
  | cons a s =>
    rw [laws_toInt64S_eq (a :: s) true (.inr (by simp)) hl k hk]
    congr 1
    rw [List.take_append_of_le_length (by simp), List.take_of_length_le (by simp)]
theorem laws_eqInt64S_l0 (l : List Int) (hl : l.length ≤ 1000000000) : ∀ (d k : Nat) (i : Int), 0 ≤ i → i + d = l.length → d < k → laws_eqInt64S.l0 k l l i = some true
  | 0, k, i, h0, h1, hk => by
    obtain ⟨k, rfl⟩ : ∃ m, k = m + 1 := ⟨k - 1, by omega⟩
    simp only [laws_eqInt64S.l0]
    rw [if_neg (by omega)]
  | d + 1, k, i, h0, h1, hk => by
    obtain ⟨k, rfl⟩ : ∃ m, k = m + 1 := ⟨k - 1, by omega⟩
    simp only [laws_eqInt64S.l0]
    rw [if_pos (by omega), if_pos (by omega), if_pos (by omega)]
    first | rw [if_pos trivial] | rw [if_pos rfl]
    rw [w64 (by omega)]
    exact laws_eqInt64S_l0 l hl d k (i + 1) (by omega) (by omega) (by omega)
theorem laws_eqInt64S_same (l : List Int) (hl : l.length ≤ 1000000000) (k : Nat) (hk : l.length < k) : laws_eqInt64S.f k l l = some true := by
  unfold laws_eqInt64S.f
  rw [if_pos rfl]
  exact laws_eqInt64S_l0 l hl l.length k 0 (by omega) (by omega) hk
/-- The numbers from a on, field by field. -/
def marksInt64 : Nat → Int → List Int
  | 0, _ => []
  | n + 1, a => a :: marksInt64 n (a + 1)
theorem marksInt64_length : ∀ (n : Nat) (a : Int), (marksInt64 n a).length = n
  | 0, _ => rfl
  | n + 1, a => by simp [marksInt64, marksInt64_length n]
theorem rd_midInt64 (p : List Int) (b : Int) (s : List Int) : rd (p ++ b :: s) (p.length : Int) = b := getD_mid _ p b s
theorem laws_markInt64S_l0 : ∀ (s p : List Int) (k : Nat) (a : Int), 0 ≤ a → a + 1 * s.length ≤ 1000000000000000 → p.length + s.length ≤ 1000000000000000 → s.length < k → laws_markInt64S.l0 k (p ++ s) a (p.length : Int) = some (a + 1 * s.length, p ++ marksInt64 s.length a)
  | [], p, k, a, h0, h1, h2, hk => by
    obtain ⟨k, rfl⟩ : ∃ m, k = m + 1 := ⟨k - 1, by simp at hk; omega⟩
    simp only [laws_markInt64S.l0]
    rw [if_neg (by simp)]
    simp [marksInt64]
  | b :: s, p, k, a, h0, h1, h2, hk => by
    obtain ⟨k, rfl⟩ : ∃ m, k = m + 1 := ⟨k - 1, by simp at hk; omega⟩
    simp only [List.length_cons] at h1 h2 hk
    have ih := laws_markInt64S_l0 s (p ++ [a]) k (a + 1) (by omega) (by omega) (by simp; omega) (by omega)
    simp only [laws_markInt64S.l0]
    rw [if_pos (by simp; omega), if_pos (by omega)]
    simp only [Option.bind_some, set_mid, rd_midInt64]
    have w1 : wrap64 (a + 1) = a + 1 := by rw [w64 (by omega)] <;> omega
    simp only [w1]
    have e1 : p ++ a :: s = (p ++ [a]) ++ s := by simp
    have e2 : (p.length : Int) + 1 = ((p ++ [a]).length : Int) := by simp
    rw [w64 (n := (p.length : Int) + 1) (by omega), e1, e2, ih]
    have e3 : a + 1 + 1 * (s.length : Int) = a + 1 * ((s.length + 1 : Nat) : Int) := by omega
    rw [e3]
    simp [marksInt64]
theorem laws_markInt64S_eq (l : List Int) (a : Int) (h0 : 0 ≤ a) (h1 : a + 1 * l.length ≤ 1000000000000000) (h2 : l.length ≤ 1000000000000000) (k : Nat) (hk : l.length < k) : laws_markInt64S.f k l a = some (a + 1 * l.length, marksInt64 l.length a) := by
  unfold laws_markInt64S.f
  have := laws_markInt64S_l0 l [] k a h0 h1 (by simpa using h2) hk
  simpa using this
theorem laws_heldInt64S_l0 : ∀ (m : Nat) (p : List Int) (k : Nat) (a : Int), 0 ≤ a → a + 1 * m ≤ 1000000000000000 → p.length + m ≤ 1000000000000000 → m < k → laws_heldInt64S.l0 k (p ++ marksInt64 m a) a (p.length : Int) = some (a + 1 * m)
  | 0, p, k, a, h0, h1, h2, hk => by
    obtain ⟨k, rfl⟩ : ∃ m, k = m + 1 := ⟨k - 1, by omega⟩
    simp only [laws_heldInt64S.l0]
    rw [if_neg (by simp [marksInt64])]
    simp
  | m + 1, p, k, a, h0, h1, h2, hk => by
    obtain ⟨k, rfl⟩ : ∃ m, k = m + 1 := ⟨k - 1, by omega⟩
    have ih := laws_heldInt64S_l0 m (p ++ [a]) k (a + 1) (by omega) (by omega) (by simp; omega) (by omega)
    rw [show p ++ marksInt64 (m + 1) a = p ++ a :: marksInt64 m (a + 1) from rfl]
    simp only [laws_heldInt64S.l0]
    rw [if_pos (by simp; omega), if_pos (by omega)]
    simp only [rd_midInt64]
    have w1 : wrap64 (a + 1) = a + 1 := by rw [w64 (by omega)] <;> omega
    simp only [w1]
    have e1 : p ++ a :: marksInt64 m (a + 1) = (p ++ [a]) ++ marksInt64 m (a + 1) := by simp
    have e2 : (p.length : Int) + 1 = ((p ++ [a]).length : Int) := by simp
    rw [w64 (n := (p.length : Int) + 1) (by omega), e1, e2]
    simp only [if_true]
    rw [ih]
    congr 1
    omega
theorem laws_heldInt64S_eq (m : Nat) (a : Int) (h0 : 0 ≤ a) (h1 : a + 1 * m ≤ 1000000000000000) (h2 : m ≤ 1000000000000000) (k : Nat) (hk : m < k) : laws_heldInt64S.f k (marksInt64 m a) a = some (a + 1 * m) := by
  unfold laws_heldInt64S.f
  have := laws_heldInt64S_l0 m [] k a h0 h1 (by simpa using h2) hk
  simpa using this
def cS (x : S130) : S26 := ⟨x.f0, x.f1⟩
def cP (x : S130) : P26 := ⟨x.f0, x.f1, x.f1 ++ List.replicate (room x.f1.length) (-7000000000000000101)⟩
def cF : P26 := ⟨-7000000000000000101, [-7000000000000000101], [-7000000000000000101]⟩
def cG : S26 := ⟨-7000000000000000101, [-7000000000000000101]⟩
theorem full_toCircuit_false (a : Int) (r : List Int) (hr : r.length ≤ 1000000) (k : Nat) (hk : 2000010 ≤ k) : full_toCircuit.f k a r false = some (a, r, r ++ List.replicate (room r.length) (-7000000000000000101)) := by
  unfold full_toCircuit.f
  rw [full_toInt64S_eq r false (.inl rfl) hr k (by omega), Option.bind_some, List.take_append_of_le_length (Nat.le_refl _), List.take_length]
theorem laws_toCircuit_true (a : Int) (r : List Int) (hr : r.length ≤ 1000000) (k : Nat) (hk : 2000010 ≤ k) : laws_toCircuit.f k a r true = some (a, r) := by
  unfold laws_toCircuit.f
  rw [laws_toInt64S_bare r hr k (by omega), Option.bind_some]
theorem full_toCircuitS_l1 (l : List S130) : ∀ (j k : Nat) (pre : List P26), l.length ≤ pre.length → pre.length + j ≤ 4000000 → j < k → full_toCircuitS.l1 k l (pre ++ List.replicate j zP) (pre.length : Int) = some (pre ++ List.replicate j cF)
  | 0, k, pre, h1, h2, hk => by
    obtain ⟨k, rfl⟩ : ∃ m, k = m + 1 := ⟨k - 1, by omega⟩
    simp only [full_toCircuitS.l1, List.replicate_zero, List.append_nil]
    rw [if_neg (by omega), if_pos (by omega), if_pos (by omega)]
  | j + 1, k, pre, h1, h2, hk => by
    obtain ⟨k, rfl⟩ : ∃ m, k = m + 1 := ⟨k - 1, by omega⟩
    have ih := full_toCircuitS_l1 l j k (pre ++ [cF]) (by simp; omega) (by simp; omega) (by omega)
    simp only [full_toCircuitS.l1]
    rw [if_pos (by simp; omega)]
    simp only [laws_fillerCircuit.f, Option.bind_some]
    rw [if_pos (by omega), w64 (by omega), List.replicate_succ, set_mid]
    have e1 : pre ++ cF :: List.replicate j zP = (pre ++ [cF]) ++ List.replicate j zP := by simp
    have e2 : (pre.length : Int) + 1 = ((pre ++ [cF]).length : Int) := by simp
    rw [show (⟨-7000000000000000101, [-7000000000000000101], [-7000000000000000101]⟩ : P26) = cF from rfl, e1, e2, ih]
    simp [List.replicate_succ]
theorem full_toCircuitS_l0 (l : List S130) (R : Nat) (hl : l.length ≤ 1000000) (hR : R ≤ 1000001) (hx : ∀ x ∈ l, x.f1.length ≤ 1000000) : ∀ (s p : List S130) (k : Nat), l = p ++ s → s.length + R + 3000000 ≤ k → full_toCircuitS.l0 k l false (p.map cP ++ List.replicate (s.length + R) zP) (p.length : Int) = some (l.map cP ++ List.replicate R cF)
  | [], p, k, h, hk => by
    obtain ⟨k, rfl⟩ : ∃ m, k = m + 1 := ⟨k - 1, by omega⟩
    have hp : l = p := by simpa using h
    subst hp
    simp only [full_toCircuitS.l0]
    rw [if_neg (by omega)]
    have := full_toCircuitS_l1 l R k (l.map cP) (by simp) (by (try simp only [List.length_map]); omega) (by simp at hk; omega)
    simpa using this
  | a :: s, p, k, h, hk => by
    obtain ⟨k, rfl⟩ : ∃ m, k = m + 1 := ⟨k - 1, by omega⟩
    have hlen : l.length = p.length + (s.length + 1) := by rw [h]; simp
    have hget : rd_T130 l (p.length : Int) = a := by rw [h]; exact getD_mid _ p a s
    have ha : a.f1.length ≤ 1000000 := hx a (by rw [h]; simp)
    have ih := full_toCircuitS_l0 l R hl hR hx s (p ++ [a]) k (by rw [h]; simp) (by simp at hk ⊢; omega)
    simp only [full_toCircuitS.l0]
    rw [if_pos (by omega), if_pos (by omega), hget, full_toCircuit_false a.f0 a.f1 ha k (by simp at hk; omega), Option.bind_some]
    rw [if_pos (by simp; omega), w64 (by omega)]
    have e0 : (a :: s).length + R = (s.length + R) + 1 := by simp; omega
    have e1 : (p.map cP ++ List.replicate ((a :: s).length + R) zP).set ((p.length : Int)).toNat (cP a) = (p ++ [a]).map cP ++ List.replicate (s.length + R) zP := by
      rw [e0, List.replicate_succ]
      have := set_mid (p.map cP) zP (cP a) (List.replicate (s.length + R) zP)
      (try simp only [List.length_map] at this)
      rw [this]
      simp
    have e2 : (p.length : Int) + 1 = ((p ++ [a]).length : Int) := by simp
    refine Eq.trans (congrArg (fun z => full_toCircuitS.l0 k l false z ((p.length : Int) + 1)) e1) ?_
    rw [e2]
    exact ih
theorem laws_toCircuitS_l1 (l : List S130) : ∀ (j k : Nat) (pre : List S26), l.length ≤ pre.length → pre.length + j ≤ 4000000 → j < k → laws_toCircuitS.l1 k l (pre ++ List.replicate j z26) (pre.length : Int) = some ((pre ++ List.replicate j cG).take l.length)
  | 0, k, pre, h1, h2, hk => by
    obtain ⟨k, rfl⟩ : ∃ m, k = m + 1 := ⟨k - 1, by omega⟩
    simp only [laws_toCircuitS.l1, List.replicate_zero, List.append_nil]
    rw [if_neg (by omega), if_pos (by omega), if_pos (by omega)]
    rw [Int.toNat_natCast]
  | j + 1, k, pre, h1, h2, hk => by
    obtain ⟨k, rfl⟩ : ∃ m, k = m + 1 := ⟨k - 1, by omega⟩
    have ih := laws_toCircuitS_l1 l j k (pre ++ [cG]) (by simp; omega) (by simp; omega) (by omega)
    simp only [laws_toCircuitS.l1]
    rw [if_pos (by simp; omega)]
    simp only [laws_fillerCircuit.f, Option.bind_some]
    rw [if_pos (by omega), w64 (by omega), List.replicate_succ, set_mid]
    have e1 : pre ++ cG :: List.replicate j z26 = (pre ++ [cG]) ++ List.replicate j z26 := by simp
    have e2 : (pre.length : Int) + 1 = ((pre ++ [cG]).length : Int) := by simp
    rw [show (⟨-7000000000000000101, [-7000000000000000101]⟩ : S26) = cG from rfl, e1, e2, ih]
    simp [List.replicate_succ]
theorem laws_toCircuitS_l0 (l : List S130) (R : Nat) (hl : l.length ≤ 1000000) (hR : R ≤ 1000001) (hx : ∀ x ∈ l, x.f1.length ≤ 1000000) : ∀ (s p : List S130) (k : Nat), l = p ++ s → s.length + R + 3000000 ≤ k → laws_toCircuitS.l0 k l true (p.map cS ++ List.replicate (s.length + R) z26) (p.length : Int) = some ((l.map cS ++ List.replicate R cG).take l.length)
  | [], p, k, h, hk => by
    obtain ⟨k, rfl⟩ : ∃ m, k = m + 1 := ⟨k - 1, by omega⟩
    have hp : l = p := by simpa using h
    subst hp
    simp only [laws_toCircuitS.l0]
    rw [if_neg (by omega)]
    have := laws_toCircuitS_l1 l R k (l.map cS) (by simp) (by (try simp only [List.length_map]); omega) (by simp at hk; omega)
    simpa using this
  | a :: s, p, k, h, hk => by
    obtain ⟨k, rfl⟩ : ∃ m, k = m + 1 := ⟨k - 1, by omega⟩
    have hlen : l.length = p.length + (s.length + 1) := by rw [h]; simp
    have hget : rd_T130 l (p.length : Int) = a := by rw [h]; exact getD_mid _ p a s
    have ha : a.f1.length ≤ 1000000 := hx a (by rw [h]; simp)
    have ih := laws_toCircuitS_l0 l R hl hR hx s (p ++ [a]) k (by rw [h]; simp) (by simp at hk ⊢; omega)
    simp only [laws_toCircuitS.l0]
    rw [if_pos (by omega), if_pos (by omega), hget, laws_toCircuit_true a.f0 a.f1 ha k (by simp at hk; omega), Option.bind_some]
    rw [if_pos (by simp; omega), w64 (by omega)]
    have e0 : (a :: s).length + R = (s.length + R) + 1 := by simp; omega
    have e1 : (p.map cS ++ List.replicate ((a :: s).length + R) z26).set ((p.length : Int)).toNat (cS a) = (p ++ [a]).map cS ++ List.replicate (s.length + R) z26 := by
      rw [e0, List.replicate_succ]
      have := set_mid (p.map cS) z26 (cS a) (List.replicate (s.length + R) z26)
      (try simp only [List.length_map] at this)
      rw [this]
      simp
    have e2 : (p.length : Int) + 1 = ((p ++ [a]).length : Int) := by simp
    refine Eq.trans (congrArg (fun z => laws_toCircuitS.l0 k l true z ((p.length : Int) + 1)) e1) ?_
    rw [e2]
    exact ih
theorem full_toCircuitS_eq (l : List S130) (hl : l.length ≤ 1000000) (hx : ∀ x ∈ l, x.f1.length ≤ 1000000) (k : Nat) (hk : 10000000 ≤ k) : full_toCircuitS.f k l false = some (l.map cP ++ List.replicate (room l.length) cF) := by
  obtain ⟨k, rfl⟩ : ∃ m, k = m + 1 := ⟨k - 1, by omega⟩
  have hr := room_le l.length
  show full_toCircuitS.j0 (k + 1) l false false = _
  simp only [full_toCircuitS.j0]
  rw [if_neg (by decide), room_eq, Option.bind_some, w64 (by omega), if_pos (by omega), if_pos (by omega)]
  have := full_toCircuitS_l0 l (room l.length) hl (by omega) hx l [] k (by simp) (by omega)
  have e3 : ((l.length : Int) + (room l.length : Int)).toNat = l.length + room l.length := by omega
  rw [e3]
  simpa using this
theorem laws_toCircuitS_bare (l : List S130) (hl : l.length ≤ 1000000) (hx : ∀ x ∈ l, x.f1.length ≤ 1000000) (k : Nat) (hk : 10000000 ≤ k) : laws_toCircuitS.f k l true = some (l.map cS) := by
  obtain ⟨k, rfl⟩ : ∃ m, k = m + 1 := ⟨k - 1, by omega⟩
  have hr := room_le l.length
  show laws_toCircuitS.j0 (k + 1) l true ((l.length : Int) == 0) = _
  cases l with
  | nil => simp [laws_toCircuitS.j0]
  | cons a s =>
    have hz : (((a :: s).length : Int) == 0) = false := by simp; omega
    rw [hz]
    generalize hg : a :: s = l at *
    simp only [laws_toCircuitS.j0]
    rw [if_neg (by decide), room_eq, Option.bind_some, w64 (by omega), if_pos (by omega), if_pos (by omega)]
    have := laws_toCircuitS_l0 l (room l.length) hl (by omega) hx l [] k (by simp) (by omega)
    have e3 : ((l.length : Int) + (room l.length : Int)).toNat = l.length + room l.length := by omega
    rw [e3]
    have e4 : (l.map cS ++ List.replicate (room l.length) cG).take l.length = l.map cS := by
      rw [List.take_append_of_le_length (by simp), List.take_of_length_le (by simp)]
    rw [e4] at this
    simpa using this
theorem laws_eqCircuitS_l0 (l : List S26) (hl : l.length ≤ 1000000000) (hx : ∀ x ∈ l, x.f1.length ≤ 4000000) : ∀ (d k : Nat) (i : Int), 0 ≤ i → i + d = l.length → d + 4000001 < k → laws_eqCircuitS.l0 k l l i = some true
  | 0, k, i, h0, h1, hk => by
    obtain ⟨k, rfl⟩ : ∃ m, k = m + 1 := ⟨k - 1, by omega⟩
    simp only [laws_eqCircuitS.l0]
    rw [if_neg (by omega)]
  | d + 1, k, i, h0, h1, hk => by
    obtain ⟨k, rfl⟩ : ∃ m, k = m + 1 := ⟨k - 1, by omega⟩
    have hm : (rd_T26 l i).f1.length ≤ 4000000 := hx _ (by
      show l.getD _ _ ∈ l
      rw [List.getD_eq_getElem?_getD, List.getElem?_eq_getElem (by omega)]
      exact List.getElem_mem _)
    have he : laws_eqCircuit.f k (rd_T26 l i).f0 (rd_T26 l i).f1 (rd_T26 l i).f0 (rd_T26 l i).f1 = some true := by
      unfold laws_eqCircuit.f
      rw [if_pos rfl, laws_eqInt64S_same _ (by omega) k (by omega), Option.bind_some]
      rfl
    simp only [laws_eqCircuitS.l0]
    rw [if_pos (by omega), if_pos (by omega), if_pos (by omega), he, Option.bind_some]
    first | rw [if_pos trivial] | rw [if_pos rfl]
    rw [w64 (by omega)]
    exact laws_eqCircuitS_l0 l hl hx d k (i + 1) (by omega) (by omega) (by omega)
theorem laws_eqCircuitS_same (l : List S26) (hl : l.length ≤ 1000000000) (hx : ∀ x ∈ l, x.f1.length ≤ 4000000) (k : Nat) (hk : l.length + 4000001 < k) : laws_eqCircuitS.f k l l = some true := by
  unfold laws_eqCircuitS.f
  rw [if_pos rfl]
  exact laws_eqCircuitS_l0 l hl hx l.length k 0 (by omega) (by omega) hk
theorem laws_markCircuitS_l0 : ∀ (s p : List S26) (k : Nat) (a : Int), 0 ≤ a → a + 1000001 * s.length ≤ 100000000000000 → p.length + s.length ≤ 1000000000 → (∀ x ∈ s, x.f1.length ≤ 1000000) → s.length + 1000001 < k → ∃ b ys, laws_markCircuitS.l0 k (p ++ s) a (p.length : Int) = some (b, ys) ∧ 0 ≤ b ∧ b ≤ a + 1000001 * s.length
  | [], p, k, a, h0, h1, h2, h3, hk => by
    obtain ⟨k, rfl⟩ : ∃ m, k = m + 1 := ⟨k - 1, by simp at hk; omega⟩
    refine ⟨a, p ++ [], ?_, h0, by simp⟩
    simp only [laws_markCircuitS.l0]
    rw [if_neg (by simp)]
  | b :: s, p, k, a, h0, h1, h2, h3, hk => by
    obtain ⟨k, rfl⟩ : ∃ m, k = m + 1 := ⟨k - 1, by simp at hk; omega⟩
    simp only [List.length_cons] at h1 h2 hk
    have hb : b.f1.length ≤ 1000000 := h3 b (by simp)
    have hm := laws_markInt64S_eq b.f1 (a + 1) (by omega) (by omega) (by omega) k (by omega)
    obtain ⟨c, ys, e, c0, c1⟩ := laws_markCircuitS_l0 s (p ++ [(⟨a, marksInt64 b.f1.length (a + 1)⟩ : S26)]) k (a + 1 + 1 * (b.f1.length : Int)) (by omega) (by omega) (by simp; omega) (fun x hx => h3 x (by simp [hx])) (by omega)
    refine ⟨c, ys, ?_, c0, by simp only [List.length_cons]; omega⟩
    simp only [laws_markCircuitS.l0]
    rw [if_pos (by simp; omega), if_pos (by omega), show rd_T26 (p ++ b :: s) (p.length : Int) = b from getD_mid _ p b s, w64 (n := a + 1) (by omega), hm, Option.bind_some]
    simp only [set_mid]
    have e1 : p ++ (⟨a, marksInt64 b.f1.length (a + 1)⟩ : S26) :: s = (p ++ [(⟨a, marksInt64 b.f1.length (a + 1)⟩ : S26)]) ++ s := by simp
    have e2 : (p.length : Int) + 1 = ((p ++ [(⟨a, marksInt64 b.f1.length (a + 1)⟩ : S26)]).length : Int) := by simp
    rw [w64 (n := (p.length : Int) + 1) (by omega), e1, e2]
    exact e
theorem laws_markCircuitS_ex (l : List S26) (hl : l.length ≤ 1000000) (hx : ∀ x ∈ l, x.f1.length ≤ 1000000) (k : Nat) (hk : 10000000 ≤ k) : ∃ b ys, laws_markCircuitS.f k l 101 = some (b, ys) ∧ 0 ≤ b ∧ b ≤ 10000000000000 := by
  obtain ⟨b, ys, e, b0, b1⟩ := laws_markCircuitS_l0 l [] k 101 (by omega) (by omega) (by simp; omega) hx (by omega)
  exact ⟨b, ys, by unfold laws_markCircuitS.f; simpa using e, b0, by omega⟩
theorem szC_l0 (l : List S130) (hl : l.length ≤ 1000000) (hx : ∀ x ∈ l, x.f1.length ≤ 140737488351232) : ∀ (d k : Nat) (a i : Int), 0 ≤ a → a ≤ 1000000 → 0 ≤ i → i + d = l.length → d < k → ∃ s, laws_szCircuitS.l0 k l a i = some s ∧ (¬ s < 0 → ∀ j : Int, i ≤ j → j < l.length → (rd_T130 l j).f1.length ≤ 1000000)
  | 0, k, a, i, a0, a1, i0, hd, hk => by
    obtain ⟨k, rfl⟩ : ∃ m, k = m + 1 := ⟨k - 1, by omega⟩
    refine ⟨a, ?_, fun _ j j0 j1 => by omega⟩
    simp only [laws_szCircuitS.l0, if_neg (show ¬ i < (l.length : Int) by omega)]
  | d + 1, k, a, i, a0, a1, i0, hd, hk => by
    obtain ⟨k, rfl⟩ : ∃ m, k = m + 1 := ⟨k - 1, by omega⟩
    have hm : (rd_T130 l i).f1.length ≤ 140737488351232 := hx _ (by
      show l.getD _ _ ∈ l
      rw [List.getD_eq_getElem?_getD, List.getElem?_eq_getElem (by omega)]
      exact List.getElem_mem _)
    by_cases c : a - ((rd_T130 l i).f1.length : Int) < 0
    · refine ⟨-1, ?_, fun h => absurd (by decide) h⟩
      simp only [laws_szCircuitS.l0, if_pos (show i < (l.length : Int) by omega), if_pos i0, laws_szCircuit.f, laws_szInt64S.f, w64 (n := a - ((rd_T130 l i).f1.length : Int)) (by omega), if_pos c, Option.bind_some, if_pos (show (-1 : Int) < 0 by decide)]
    · obtain ⟨s, e, h⟩ := szC_l0 l hl hx d k (a - ((rd_T130 l i).f1.length : Int)) (i + 1) (by omega) (by omega) (by omega) (by omega) (by omega)
      refine ⟨s, ?_, fun hs j j0 j1 => ?_⟩
      · simp only [laws_szCircuitS.l0, if_pos (show i < (l.length : Int) by omega), if_pos i0, laws_szCircuit.f, laws_szInt64S.f, w64 (n := a - ((rd_T130 l i).f1.length : Int)) (by omega), if_neg c, Option.bind_some, w64 (n := i + 1) (by omega)]
        exact e
      · by_cases ej : j = i
        · rw [ej]; omega
        · exact h hs j (by omega) j1
theorem szC (l : List S130) (a : Int) (ha : -1000000000000000 ≤ a ∧ a ≤ 1000000) (hl : l.length ≤ 140737488351232) (hx : ∀ x ∈ l, x.f1.length ≤ 140737488351232) : ∃ k s, laws_szCircuitS.f k l a = some s ∧ (¬ s < 0 → 0 ≤ a ∧ l.length ≤ 1000000 ∧ ∀ x ∈ l, x.f1.length ≤ 1000000) := by
  by_cases c : a - (l.length : Int) < 0
  · refine ⟨0, -1, ?_, fun h => absurd (by decide) h⟩
    simp only [laws_szCircuitS.f, w64 (n := a - (l.length : Int)) (by omega), if_pos c]
  · obtain ⟨s, e, h⟩ := szC_l0 l (by omega) hx l.length (l.length + 1) (a - (l.length : Int)) 0 (by omega) (by omega) (by omega) (by omega) (by omega)
    refine ⟨l.length + 1, s, ?_, fun hs => ⟨by omega, by omega, fun x hm => ?_⟩⟩
    · simp only [laws_szCircuitS.f, w64 (n := a - (l.length : Int)) (by omega), if_neg c]
      exact e
    · obtain ⟨n, hn, rfl⟩ := List.mem_iff_getElem.1 hm
      have hj := h hs (n : Int) (by omega) (by omega)
      have er : rd_T130 l (n : Int) = l[n] := by
        show l.getD _ _ = _
        rw [List.getD_eq_getElem?_getD, Int.toNat_natCast, List.getElem?_eq_getElem hn]
        rfl
      rw [er] at hj
      exact hj
theorem rdP_at (l : List S130) (R : Nat) (i : Int) (h0 : 0 ≤ i) (h1 : i < l.length) : ∃ x ∈ l, rd_P (l.map cP ++ List.replicate R cF) i = cP x := by
  have hn : i.toNat < l.length := by omega
  refine ⟨l[i.toNat], List.getElem_mem _, ?_⟩
  show List.getD _ _ _ = _
  rw [List.getD_eq_getElem?_getD, List.getElem?_append_left (by simp; omega), List.getElem?_map, List.getElem?_eq_getElem hn]
  rfl
theorem inner (l : List S130) (nx : ∀ x ∈ l, x.f1.length ≤ 1000000) (R k : Nat) (hk : 10000000 ≤ k) (i : Int) (h0 : 0 ≤ i) (h1 : i < l.length) : ∃ tp, laws_roomBehind.f ((rd_P (l.map cP ++ List.replicate R cF) i).f1.length : Int) = some tp ∧ wrap64 (((rd_P (l.map cP ++ List.replicate R cF) i).f1.length : Int) + tp) = ((rd_P (l.map cP ++ List.replicate R cF) i).f2.length : Int) ∧ laws_eqInt64S.f k (rd_P (l.map cP ++ List.replicate R cF) i).f2 (rd_P (l.map cP ++ List.replicate R cF) i).f2 = some true := by
  obtain ⟨x, hx, e⟩ := rdP_at l R i h0 h1
  have hl := nx x hx
  have hr := room_le x.f1.length
  have e2 : (cP x).f2.length = x.f1.length + room x.f1.length := by simp [cP]
  rw [e]
  refine ⟨((room x.f1.length : Nat) : Int), room_eq _, ?_, laws_eqInt64S_same _ (by omega) _ (by omega)⟩
  rw [e2]
  show wrap64 ((x.f1.length : Int) + _) = _
  rw [w64 (by omega)]
  omega
theorem behind (l : List S130) (hl : l.length ≤ 1000000) (k : Nat) (hk : 10000000 ≤ k) : laws_eqCircuitS.f k (((l.map cP ++ List.replicate (room l.length) cF).drop (l.map cS).length).map pS) (((l.map cP ++ List.replicate (room l.length) cF).drop (l.map cS).length).map pS) = some true := by
  have hr := room_le l.length
  have e : ((l.map cP ++ List.replicate (room l.length) cF).drop (l.map cS).length).map pS = List.replicate (room l.length) cG := by
    rw [List.length_map, List.drop_append_of_le_length (by simp), List.drop_of_length_le (by simp), List.nil_append, List.map_replicate]
    rfl
  rw [e]
  refine laws_eqCircuitS_same _ (by simp; omega) (fun x hx => ?_) _ (by simp; omega)
  rw [List.eq_of_mem_replicate hx]
  decide
theorem sz_some (l0 : List S130) (l1 : List Int) (q0 : (l0.length * 32 ≤ 140737488351232 ∧ ∀ x ∈ l0, (I64 x.f0 ∧ (x.f1.length * 8 ≤ 140737488351232 ∧ ∀ x_ ∈ x.f1, I64 x_)))) (q1 : (l1.length * 8 ≤ 140737488351232 ∧ ∀ x ∈ l1, I64 x)) : ∃ kz t1, laws_szCircuitS.f kz l0 (wrap64 (1000000 - (l1.length : Int))) = some t1 ∧ (¬ t1 < 0 → l0.length ≤ 1000000 ∧ l1.length ≤ 1000000 ∧ ∀ x ∈ l0, x.f1.length ≤ 1000000) := by
  have h0 := q0.1
  have h1 := q1.1
  rw [w64 (by omega)]
  obtain ⟨kz, t, e, h⟩ := szC l0 (1000000 - (l1.length : Int)) (by omega) (by omega) (fun x hx => by have := (q0.2 x hx).2.1; omega)
  exact ⟨kz, t, e, fun ht => ⟨(h ht).2.1, by have := (h ht).1; omega, (h ht).2.2⟩⟩
theorem facts (l0 : List S130) (l1 : List Int) (a2 : Int) (hb : l0.length ≤ 1000000 ∧ l1.length ≤ 1000000 ∧ ∀ x ∈ l0, x.f1.length ≤ 1000000) :
    ∃ (k : Nat) (m0 : List S26) (f0 : List P26) (t0 : Int) (m1 f1 : List Int) (t1 : Int) (kk0 : Int) (mm0 : List S26) (kk1 : Int) (mm1 : List Int) (r1 : List Int) (r2 : Int) (kr : Int) (rr : List Int), full_toCircuitS.f k l0 false = some f0 ∧ (f0.take l0.length).map pS = m0 ∧ laws_toCircuitS.f k l0 true = some m0 ∧ laws_roomBehind.f (m0.length : Int) = some t0 ∧ wrap64 ((m0.length : Int) + t0) = (f0.length : Int) ∧ m0.length ≤ f0.length ∧ f0.length ≤ 100000000 ∧ (∀ i : Int, 0 ≤ i → i < m0.length → ∃ tp, laws_roomBehind.f ((rd_P f0 i).f1.length : Int) = some tp ∧ wrap64 (((rd_P f0 i).f1.length : Int) + tp) = ((rd_P f0 i).f2.length : Int) ∧ laws_eqInt64S.f k (rd_P f0 i).f2 (rd_P f0 i).f2 = some true) ∧ laws_eqCircuitS.f k ((f0.drop m0.length).map pS) ((f0.drop m0.length).map pS) = some true ∧ full_toInt64S.f k l1 false = some f1 ∧ f1.take l1.length = m1 ∧ laws_toInt64S.f k l1 true = some m1 ∧ laws_roomBehind.f (m1.length : Int) = some t1 ∧ wrap64 ((m1.length : Int) + t1) = (f1.length : Int) ∧ laws_eqInt64S.f k f1 f1 = some true ∧ laws_markCircuitS.f k m0 101 = some (kk0, mm0) ∧ laws_markInt64S.f k m1 kk0 = some (kk1, mm1) ∧ ¬ kk1 < 0 ∧ spec_WorstPins.f k m0 m1 a2 = some (r1, r2) ∧ impl_WorstPins.f k m0 m1 a2 = some (r1, r2) ∧ laws_eqInt64S.f k r1 r1 = some true ∧ laws_markInt64S.f k r1 101 = some (kr, rr) ∧ r1.length = rr.length ∧ laws_heldInt64S.f k rr 101 = some kr ∧ ¬ kr < 0 := by
  obtain ⟨n0, n1, nx⟩ := hb
  have hx : ∀ x ∈ l0.map cS, x.f1.length ≤ 1000000 := by
    intro x hm
    obtain ⟨y, hy, rfl⟩ := List.mem_map.1 hm
    exact nx y hy
  obtain ⟨K0, r1, r2, hrl, hag⟩ := Pure.agree_WorstPins (l0.map cS) l1 a2 (by simpa using n0) hx n1
  obtain ⟨b0, ys, e0, bl, bu⟩ := laws_markCircuitS_ex (l0.map cS) (by simpa using n0) hx (K0 + 100000000) (by omega)
  exact ⟨K0 + 100000000, l0.map cS, (l0.map cP ++ List.replicate (room l0.length) cF), ((room l0.length : Nat) : Int), l1, (l1 ++ List.replicate (room l1.length) (-7000000000000000101)), ((room l1.length : Nat) : Int), b0, ys, (b0 + 1 * (l1.length : Int)), (marksInt64 l1.length b0), r1, r2, (101 + 1 * (r1.length : Int)), (marksInt64 r1.length 101), full_toCircuitS_eq l0 n0 nx _ (by omega), (by rw [List.take_append_of_le_length (by simp), List.take_of_length_le (by simp), List.map_map]; rfl), laws_toCircuitS_bare l0 n0 nx _ (by omega), (by rw [List.length_map]; exact room_eq _), (by have := room_le l0.length; rw [w64 (by (try simp only [List.length_map]); omega)]; simp), (by simp), (by have := room_le l0.length; simp; omega), fun i i0 i1 => inner l0 nx _ _ (by omega) i i0 (by simpa using i1), behind l0 n0 _ (by omega), full_toInt64S_eq l1 false (.inl rfl) n1 _ (by omega), (by rw [List.take_append_of_le_length (by simp), List.take_of_length_le (by simp)]), laws_toInt64S_bare l1 n1 _ (by omega), room_eq _, (by have := room_le l1.length; rw [w64 (by omega)]; simp), laws_eqInt64S_same _ (by have := room_le l1.length; simp; omega) _ (by have := room_le l1.length; simp; omega), e0, laws_markInt64S_eq _ _ (by omega) (by omega) (by omega) _ (by omega), (by omega), (hag _ (by omega)).1, (hag _ (by omega)).2, laws_eqInt64S_same _ (by omega) _ (by omega), laws_markInt64S_eq _ _ (by omega) (by omega) (by omega) _ (by omega), (marksInt64_length _ _).symm, laws_heldInt64S_eq _ _ (by omega) (by omega) (by omega) _ (by omega), (by omega)⟩
end Go.Proofs.Ytmahecjbejffoaa.FactsFnExactWorstPins
