/- PureFnExactChainTimes of the law FnExactChainTimes: taken over, declaration by declaration, as far as the law leans on it (the words and the printed functions are the kit's own print). No condition but what each says. -/
import Derived.Test.YtedcdhnbceaaeaaZFnExactChainTimesav
import Derived.Test.YtedcdhnbceaaeaaZFnExactChainTimesax
import Derived.Test.YtedcdhnbceaaeaaZFnExactChainTimesay
import Derived.Test.YtedcdhnbceaaeaaZFnExactChainTimesbb
import Derived.Test.YtedcdhnbceaaeaaZFnExactChainTimesaz
namespace Go.Proofs.Ytedcdhnbceaaeaa.Pure
open Go.RowKit Go.Proofs.Ytedcdhnbceaaeaa.PFnExactChainTimes Go.Proofs.YtedcdhnbceaaeaaW.PrintWords Go.Proofs.YtedcdhnbceaaeaaW.PrintLast Go.Proofs.Ytedcdhnbceaaeaa.Opening
set_option linter.unusedVariables false
set_option linter.unusedSimpArgs false
theorem w64 {n : Int} (h : -9223372036854775808 ≤ n ∧ n ≤ 9223372036854775807) : wrap64 n = n := by
  unfold wrap64
  omega
theorem l01In_eq (a b c : Int) : spec_l01In.f a b c = some (decide (b ≤ a ∧ a ≤ c)) := by
  unfold spec_l01In.f
  by_cases h : b ≤ a <;> simp [h]
theorem within_eq (a b c : Int) : impl_within.f a b c = some (decide (b ≤ a ∧ a ≤ c)) := by
  unfold impl_within.f
  by_cases h : b ≤ a <;> simp [h]
theorem drop_cons {α : Type} {l : List α} {i : Int} {a : α} {s : List α} (z : α) (h0 : 0 ≤ i) (h : l.drop i.toNat = a :: s) : i < l.length ∧ l.getD i.toNat z = a ∧ l.drop (i + 1).toNat = s := by
  have hlt : i.toNat < l.length := by
    rcases Nat.lt_or_ge i.toNat l.length with h1 | h1
    · exact h1
    · rw [List.drop_eq_nil_of_le h1] at h; cases h
  rw [List.drop_eq_getElem_cons hlt] at h
  injection h with h1 h2
  refine ⟨by omega, ?_, ?_⟩
  · rw [List.getD_eq_getElem?_getD, List.getElem?_eq_getElem hlt]; exact h1
  · rw [show (i + 1).toNat = i.toNat + 1 by omega]; exact h2
theorem drop_nil {α : Type} {l : List α} {i : Int} (h0 : 0 ≤ i) (h : l.drop i.toNat = []) : ¬ i < (l.length : Int) := by
  have := List.drop_eq_nil_iff.1 h
  omega
theorem Ev_shift {α : Type} {g : Nat → Option α} {r : α} (h : Ev (fun k => g (k + 1)) r) : Ev g r := Ev.step (fun _ => rfl) h
theorem Ev_both {α β : Type} {g : Nat → Option α} {f : Nat → Option β} {r : α} {q : β} (h1 : Ev g r) (h2 : Ev f q) : ∃ K, ∀ k, K ≤ k → g k = some r ∧ f k = some q := by
  obtain ⟨K, h1⟩ := h1
  obtain ⟨K', h2⟩ := h2
  exact ⟨max K K', fun k hk => ⟨h1 k (by omega), h2 k (by omega)⟩⟩
theorem Ev_eq {α : Type} {g : Nat → Option α} {r q : α} (h : Ev g r) (e : r = q) : Ev g q := e ▸ h
theorem Ev_some {α : Type} {r q : α} (e : r = q) : Ev (fun _ => some r) q := e ▸ Ev.now r
noncomputable def tt (p : Prop) : Bool := @decide p (Classical.propDecidable p)
theorem tt_pos {p : Prop} (h : p) : tt p = true := by unfold tt; exact @decide_eq_true p (Classical.propDecidable p) h
theorem tt_neg {p : Prop} (h : ¬ p) : tt p = false := by unfold tt; exact @decide_eq_false p (Classical.propDecidable p) h
theorem tt_dec (p : Prop) [i : Decidable p] : tt p = decide p := by
  by_cases h : p
  · rw [tt_pos h, decide_eq_true h]
  · rw [tt_neg h, decide_eq_false h]
theorem tt_iff {p q : Prop} (h : p ↔ q) : tt p = tt q := by rw [propext h]
/-- Chains. -/
def PLink (x : S191) : Prop := (0 ≤ x.f0 ∧ x.f0 ≤ 100000) ∧ (x.f0 ≤ x.f1 ∧ x.f1 ≤ 100000)
def PChain (l : List S191) : Prop := l.length ≤ 20 ∧ ∀ x ∈ l, PLink x
def sumA : List S191 → Int
  | [] => 0
  | x :: s => x.f0 + sumA s
def sumB : List S191 → Int
  | [] => 0
  | x :: s => x.f1 + sumB s
theorem spec_IsChain_l0 (l : List S191) (hn : l.length ≤ 1000000) : ∀ (s : List S191) (i : Int), 0 ≤ i → l.drop i.toNat = s → Ev (fun k => spec_IsChain.l0 k l i) (tt (l.length ≤ 20 ∧ ∀ x ∈ s, PLink x))
  | [], i, h0, h => by
    refine Ev_shift ?_
    simp only [spec_IsChain.l0, if_neg (drop_nil h0 h)]
    refine Ev_some ?_
    rw [← tt_dec]
    exact tt_iff ⟨fun h => ⟨by omega, fun x hx => by simp at hx⟩, fun h => by have := h.1; omega⟩
  | c :: s, i, h0, h => by
    refine Ev_shift ?_
    obtain ⟨h1, h2, h3⟩ := drop_cons z191 h0 h
    have h2' : rd_T191 l i = c := h2
    simp only [spec_IsChain.l0, if_pos h1, if_pos h0, h2', l01In_eq, Option.bind_some, decide_eq_true_eq, w64 (n := i + 1) (by omega)]
    by_cases c1 : 0 ≤ c.f0 ∧ c.f0 ≤ 100000
    · by_cases c2 : c.f0 ≤ c.f1 ∧ c.f1 ≤ 100000
      · simp only [if_pos c1, if_pos c2]
        refine Ev_eq (spec_IsChain_l0 l hn s (i + 1) (by omega) h3) (tt_iff ⟨fun h => ⟨h.1, fun x hx => ?_⟩, fun h => ⟨h.1, fun x hx => h.2 x (by simp [hx])⟩⟩)
        rcases List.mem_cons.1 hx with rfl | hx
        · exact ⟨c1, c2⟩
        · exact h.2 x hx
      · simp only [if_pos c1, if_neg c2]
        exact Ev_some (tt_neg (fun h => c2 (h.2 c (by simp)).2)).symm
    · simp only [if_neg c1]
      exact Ev_some (tt_neg (fun h => c1 (h.2 c (by simp)).1)).symm
theorem spec_IsChain_ev (l : List S191) (hn : l.length ≤ 1000000) : Ev (fun k => spec_IsChain.f k l) (tt (PChain l)) := by
  unfold spec_IsChain.f
  exact spec_IsChain_l0 l hn l 0 (by omega) rfl
theorem impl_IsChain_l0 (l : List S191) (hn : l.length ≤ 1000000) : ∀ (s : List S191) (i : Int), 0 ≤ i → l.drop i.toNat = s → Ev (fun k => impl_IsChain.l0 k l l.length i) (tt (∀ x ∈ s, PLink x))
  | [], i, h0, h => by
    refine Ev_shift ?_
    simp only [impl_IsChain.l0, if_neg (drop_nil h0 h)]
    exact Ev_some (tt_pos (fun x hx => by simp at hx)).symm
  | c :: s, i, h0, h => by
    refine Ev_shift ?_
    obtain ⟨h1, h2, h3⟩ := drop_cons z191 h0 h
    have h2' : rd_T191 l i = c := h2
    simp only [impl_IsChain.l0, if_pos h1, if_pos h0, h2', within_eq, Option.bind_some, decide_eq_true_eq, w64 (n := i + 1) (by omega)]
    by_cases c1 : 0 ≤ c.f0 ∧ c.f0 ≤ 100000
    · by_cases c2 : c.f0 ≤ c.f1 ∧ c.f1 ≤ 100000
      · simp only [if_pos c1, if_pos c2]
        refine Ev_eq (impl_IsChain_l0 l hn s (i + 1) (by omega) h3) (tt_iff ⟨fun h x hx => ?_, fun h x hx => h x (by simp [hx])⟩)
        rcases List.mem_cons.1 hx with rfl | hx
        · exact ⟨c1, c2⟩
        · exact h x hx
      · simp only [if_pos c1, if_neg c2]
        exact Ev_some (tt_neg (fun h => c2 (h c (by simp)).2)).symm
    · simp only [if_neg c1]
      exact Ev_some (tt_neg (fun h => c1 (h c (by simp)).1)).symm
theorem impl_IsChain_ev (l : List S191) (hn : l.length ≤ 1000000) : Ev (fun k => impl_IsChain.f k l) (tt (PChain l)) := by
  unfold impl_IsChain.f
  by_cases c : (l.length : Int) > 20
  · simp only [if_pos c]
    exact Ev_some (tt_neg (fun h => by have := h.1; omega)).symm
  · simp only [if_neg c]
    exact Ev_eq (impl_IsChain_l0 l hn l 0 (by omega) rfl) (tt_iff ⟨fun h => ⟨by omega, h⟩, fun h => h.2⟩)
theorem spec_lsum_l0 (l : List S191) (b : Int) (hb : b ≤ l.length) (hl : l.length ≤ 20) (hx : ∀ x ∈ l, PLink x) : ∀ (s : List S191) (i x y : Int), 0 ≤ i → i ≤ b → (l.take b.toNat).drop i.toNat = s → 0 ≤ x → x ≤ 100000 * i → 0 ≤ y → y ≤ 100000 * i → Ev (fun k => spec_l11Sum.l0 k l b x y i) (x + sumA s, y + sumB s)
  | [], i, x, y, h0, hi, h, x0, x1, y0, y1 => by
    refine Ev_shift ?_
    have := drop_nil h0 h
    simp only [List.length_take] at this
    simp only [spec_l11Sum.l0, if_neg (show ¬ i < b by omega), sumA, sumB, Int.add_zero]
    exact Ev.now _
  | c :: s, i, x, y, h0, hi, h, x0, x1, y0, y1 => by
    refine Ev_shift ?_
    obtain ⟨h1, h2, h3⟩ := drop_cons z191 h0 h
    simp only [List.length_take] at h1
    have hlt : i.toNat < l.length := by omega
    have h2' : rd_T191 l i = c := by
      rw [← h2]
      show l.getD _ _ = _
      rw [List.getD_eq_getElem?_getD, List.getD_eq_getElem?_getD, List.getElem?_take, if_pos (by omega)]
    have hc := hx c (List.mem_of_mem_take (List.mem_of_mem_drop (show c ∈ (l.take b.toNat).drop i.toNat by rw [h]; simp)))
    unfold PLink at hc
    simp only [spec_l11Sum.l0, if_pos (show i < b by omega), if_pos h0, if_pos (show i < (l.length : Int) by omega), h2', w64 (n := x + c.f0) (by omega), w64 (n := y + c.f1) (by omega), w64 (n := i + 1) (by omega)]
    refine Ev_eq (spec_lsum_l0 l b hb hl hx s (i + 1) (x + c.f0) (y + c.f1) (by omega) (by omega) h3 (by omega) (by omega) (by omega) (by omega)) ?_
    simp only [sumA, sumB]
    congr 1 <;> omega
theorem spec_lsum_ev {l : List S191} (h : PChain l) {a b : Int} (h0 : 0 ≤ a) (h1 : a ≤ b) (h2 : b ≤ l.length) : Ev (fun k => spec_l11Sum.f k l a b) (sumA ((l.take b.toNat).drop a.toNat), sumB ((l.take b.toNat).drop a.toNat)) := by
  unfold spec_l11Sum.f
  have := spec_lsum_l0 l b h2 h.1 h.2 _ a 0 0 h0 h1 rfl (by omega) (by omega) (by omega) (by omega)
  rw [Int.zero_add, Int.zero_add] at this
  exact this
theorem impl_lsum_l0 (l : List S191) (hl : l.length ≤ 20) (hx : ∀ x ∈ l, PLink x) : ∀ (s : List S191) (i x y : Int), 0 ≤ i → l.drop i.toNat = s → 0 ≤ x → x ≤ 100000 * i → 0 ≤ y → y ≤ 100000 * i → Ev (fun k => impl_burnTimes.l0 k x y l l.length i) (x + sumA s, y + sumB s)
  | [], i, x, y, h0, h, x0, x1, y0, y1 => by
    refine Ev_shift ?_
    simp only [impl_burnTimes.l0, if_neg (drop_nil h0 h), sumA, sumB, Int.add_zero]
    exact Ev.now _
  | c :: s, i, x, y, h0, h, x0, x1, y0, y1 => by
    refine Ev_shift ?_
    obtain ⟨h1, h2, h3⟩ := drop_cons z191 h0 h
    have h2' : rd_T191 l i = c := h2
    have hc := hx c (List.mem_of_mem_drop (show c ∈ l.drop i.toNat by rw [h]; simp))
    unfold PLink at hc
    simp only [impl_burnTimes.l0, if_pos h1, if_pos h0, h2', w64 (n := x + c.f0) (by omega), w64 (n := y + c.f1) (by omega), w64 (n := i + 1) (by omega)]
    refine Ev_eq (impl_lsum_l0 l hl hx s (i + 1) (x + c.f0) (y + c.f1) (by omega) h3 (by omega) (by omega) (by omega) (by omega)) ?_
    simp only [sumA, sumB]
    congr 1 <;> omega
theorem impl_lsum_ev (l : List S191) (hl : l.length ≤ 20) (hx : ∀ x ∈ l, PLink x) : Ev (fun k => impl_burnTimes.f k l) (sumA l, sumB l) := by
  unfold impl_burnTimes.f
  have := impl_lsum_l0 l hl hx l 0 0 0 (by omega) rfl (by omega) (by omega) (by omega) (by omega)
  rw [Int.zero_add, Int.zero_add] at this
  exact this
/-- The times after each number of links. -/
def rowsF (l : List S191) : Nat → Int → List (List Int)
  | 0, _ => []
  | d + 1, i => [sumA (l.take i.toNat), sumB (l.take i.toNat)] :: rowsF l d (i + 1)
theorem rowsF_length (l : List S191) : ∀ (d : Nat) (i : Int), (rowsF l d i).length = d
  | 0, _ => rfl
  | d + 1, i => by simp [rowsF, rowsF_length l d]
theorem rowsF_mem (l : List S191) : ∀ (d : Nat) (i : Int), ∀ x ∈ rowsF l d i, x.length = 2
  | 0, _, x, hx => by simp [rowsF] at hx
  | d + 1, i, x, hx => by
    rcases List.mem_cons.1 hx with rfl | hx
    · rfl
    · exact rowsF_mem l d (i + 1) x hx
theorem spec_times_l0 {l : List S191} (h : PChain l) : ∀ (d : Nat) (i : Int) (out : List (List Int)), 0 ≤ i → i + d = (l.length : Int) + 1 → out.length ≤ 100 - d → d ≤ 21 → Ev (fun k => spec_ChainTimes.l0 k l out i) (out ++ rowsF l d i, 0)
  | 0, i, out, h0, hd, ho, _ => by
    refine Ev_shift ?_
    simp only [spec_ChainTimes.l0, if_neg (show ¬ i ≤ (l.length : Int) by omega), rowsF, List.append_nil]
    exact Ev.now _
  | d + 1, i, out, h0, hd, ho, hd2 => by
    refine Ev_shift ?_
    simp only [spec_ChainTimes.l0, if_pos (show i ≤ (l.length : Int) by omega)]
    refine Ev.bind (spec_lsum_ev h (Int.le_refl 0) h0 (by omega)) ?_
    simp only [if_pos (show out.length < 5864062014805 by omega), w64 (n := i + 1) (by have := h.1; omega), Int.toNat_zero, List.drop_zero]
    refine Ev_eq (spec_times_l0 h d (i + 1) _ (by omega) (by omega) (by simp; omega) (by omega)) ?_
    simp only [rowsF, List.append_assoc, List.singleton_append]
theorem impl_times2_l0 {l : List S191} (h : PChain l) : ∀ (d : Nat) (i : Int) (out : List (List Int)), 0 ≤ i → i + d = (l.length : Int) + 1 → out.length ≤ 100 - d → d ≤ 21 → Ev (fun k => impl_ChainTimes.l0 k l out i) (out ++ rowsF l d i, 0)
  | 0, i, out, h0, hd, ho, _ => by
    refine Ev_shift ?_
    simp only [impl_ChainTimes.l0, if_neg (show ¬ i ≤ (l.length : Int) by omega), rowsF, List.append_nil]
    exact Ev.now _
  | d + 1, i, out, h0, hd, ho, hd2 => by
    refine Ev_shift ?_
    have hl := h.1
    simp only [impl_ChainTimes.l0, if_pos (show i ≤ (l.length : Int) by omega), if_pos h0]
    refine Ev.bind (impl_lsum_ev (l.take i.toNat) (by simp; omega) (fun x hx => h.2 x (List.mem_of_mem_take hx))) ?_
    simp only [if_pos (show out.length < 5864062014805 by omega), w64 (n := i + 1) (by omega)]
    refine Ev_eq (impl_times2_l0 h d (i + 1) _ (by omega) (by omega) (by simp; omega) (by omega)) ?_
    simp only [rowsF, List.append_assoc, List.singleton_append]
theorem times_ev (l : List S191) (hn : l.length ≤ 1000000) : ∃ t c, Ev (fun k => spec_ChainTimes.f k l) (t, c) ∧ Ev (fun k => impl_ChainTimes.f k l) (t, c) ∧ (PChain l ∧ t = rowsF l (l.length + 1) 0 ∧ c = 0 ∨ ¬ PChain l ∧ t = [] ∧ c = 1) := by
  have hs := spec_IsChain_ev l hn
  have hi := impl_IsChain_ev l hn
  by_cases h : PChain l
  · rw [tt_pos h] at hs hi
    have hl := h.1
    refine ⟨_, _, ?_, ?_, .inl ⟨h, rfl, rfl⟩⟩
    · unfold spec_ChainTimes.f
      refine Ev.bind hs ?_
      simp only [if_true]
      exact spec_times_l0 h (l.length + 1) 0 [] (by omega) (by omega) (by simp) (by omega)
    · unfold impl_ChainTimes.f
      refine Ev.bind hi ?_
      simp only [if_true]
      exact impl_times2_l0 h (l.length + 1) 0 [] (by omega) (by omega) (by simp) (by omega)
  · rw [tt_neg h] at hs hi
    refine ⟨_, _, ?_, ?_, .inr ⟨h, rfl, rfl⟩⟩
    · unfold spec_ChainTimes.f
      refine Ev.bind hs ?_
      simp only [Bool.false_eq_true, if_false]
      exact Ev.now _
    · unfold impl_ChainTimes.f
      refine Ev.bind hi ?_
      simp only [Bool.false_eq_true, if_false]
      exact Ev.now _
theorem agree_ChainTimes (m0 : List S191) (hn0 : m0.length ≤ 1000000) (hq0 : ∀ x ∈ m0, (I64 x.f0 ∧ I64 x.f1)) : ∃ (K : Nat) (r1 : List (List Int)) (r2 : Int), (r1.length ≤ 10000000 ∧ ∀ x ∈ r1, x.length = 2) ∧ ∀ k, K ≤ k → spec_ChainTimes.f k m0 = some (r1, r2) ∧ impl_ChainTimes.f k m0 = some (r1, r2) := by
  obtain ⟨t, c, es, ei, hc⟩ := times_ev m0 hn0
  obtain ⟨K, hk⟩ := Ev_both es ei
  refine ⟨K, t, c, ?_, hk⟩
  rcases hc with ⟨_, rfl, _⟩ | ⟨_, rfl, _⟩
  · exact ⟨by rw [rowsF_length]; omega, fun x hx => rowsF_mem _ _ _ x hx⟩
  · simp
end Go.Proofs.Ytedcdhnbceaaeaa.Pure
