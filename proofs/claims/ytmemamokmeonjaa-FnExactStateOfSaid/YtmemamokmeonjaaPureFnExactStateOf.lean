/- The plain law of FnExactStateOf: what the printed functions compute, without Go and memory. No condition but the bounds that stand in it. -/
import Derived.Test.YtmemamokmeonjaaPFnExactStateOfx0
import Derived.Test.YtmemamokmeonjaaQFnExactStateOfa
import Derived.Test.YtmemamokmeonjaaQFnExactStateOfb
import Derived.Test.YtmemamokmeonjaaQFnExactStateOfc
import Derived.Test.YtmemamokmeonjaaOpen
namespace Go.Proofs.Ytmemamokmeonjaa.Pure
open Go.RowKit Go.Proofs.Ytmemamokmeonjaa.PFnExactStateOf Go.Proofs.YtmemamokmeonjaaW.PrintWords Go.Proofs.YtmemamokmeonjaaW.PrintLast Go.Proofs.Ytmemamokmeonjaa.Opening
set_option linter.unusedVariables false
set_option linter.unusedSimpArgs false
theorem w64 {n : Int} (h : -9223372036854775808 ≤ n ∧ n ≤ 9223372036854775807) : wrap64 n = n := by
  unfold wrap64
  omega
theorem l01In_eq (a b c : Int) : spec_l01In.f a b c = some (decide (b ≤ a ∧ a ≤ c)) := by
  unfold spec_l01In.f
  by_cases h : b ≤ a <;> simp [h]
theorem within_eq (a b c : Int) : impl_within.f a b c = some (decide (b ≤ a ∧ a ≤ c)) := by
  unfold impl_within.f
  by_cases h : b ≤ a <;> simp [h]
theorem drop_cons {α : Type} {l : List α} {i : Int} {a : α} {s : List α} (z : α) (h0 : 0 ≤ i) (h : l.drop i.toNat = a :: s) : i < l.length ∧ l.getD i.toNat z = a ∧ l.drop (i + 1).toNat = s := by
  have hlt : i.toNat < l.length := by
    rcases Nat.lt_or_ge i.toNat l.length with h1 | h1
    · exact h1
    · rw [List.drop_eq_nil_of_le h1] at h; cases h
  rw [List.drop_eq_getElem_cons hlt] at h
  injection h with h1 h2
  refine ⟨by omega, ?_, ?_⟩
  · rw [List.getD_eq_getElem?_getD, List.getElem?_eq_getElem hlt]; exact h1
  · rw [show (i + 1).toNat = i.toNat + 1 by omega]; exact h2
theorem drop_nil {α : Type} {l : List α} {i : Int} (h0 : 0 ≤ i) (h : l.drop i.toNat = []) : ¬ i < (l.length : Int) := by
  have := List.drop_eq_nil_iff.1 h
  omega
theorem Ev_shift {α : Type} {g : Nat → Option α} {r : α} (h : Ev (fun k => g (k + 1)) r) : Ev g r := Ev.step (fun _ => rfl) h
theorem Ev_both {α β : Type} {g : Nat → Option α} {f : Nat → Option β} {r : α} {q : β} (h1 : Ev g r) (h2 : Ev f q) : ∃ K, ∀ k, K ≤ k → g k = some r ∧ f k = some q := by
  obtain ⟨K, h1⟩ := h1
  obtain ⟨K', h2⟩ := h2
  exact ⟨max K K', fun k hk => ⟨h1 k (by omega), h2 k (by omega)⟩⟩
theorem Ev_eq {α : Type} {g : Nat → Option α} {r q : α} (h : Ev g r) (e : r = q) : Ev g q := e ▸ h
theorem Ev_some {α : Type} {r q : α} (e : r = q) : Ev (fun _ => some r) q := e ▸ Ev.now r
noncomputable def tt (p : Prop) : Bool := @decide p (Classical.propDecidable p)
theorem tt_pos {p : Prop} (h : p) : tt p = true := by unfold tt; exact @decide_eq_true p (Classical.propDecidable p) h
theorem tt_neg {p : Prop} (h : ¬ p) : tt p = false := by unfold tt; exact @decide_eq_false p (Classical.propDecidable p) h
theorem tt_dec (p : Prop) [i : Decidable p] : tt p = decide p := by
  by_cases h : p
  · rw [tt_pos h, decide_eq_true h]
  · rw [tt_neg h, decide_eq_false h]
theorem tt_iff {p q : Prop} (h : p ↔ q) : tt p = tt q := by rw [propext h]
theorem tt_and (p q : Prop) : (tt p && tt q) = tt (p ∧ q) := by
  by_cases h : p
  · rw [tt_pos h, Bool.true_and]; exact tt_iff ⟨fun x => ⟨h, x⟩, fun x => x.2⟩
  · rw [tt_neg h, Bool.false_and, tt_neg (fun x => h x.1)]
theorem tt_eq_true {p : Prop} : tt p = true ↔ p := by
  by_cases h : p
  · exact ⟨fun _ => h, fun _ => tt_pos h⟩
  · refine ⟨fun e => ?_, fun h' => absurd h' h⟩
    rw [tt_neg h] at e
    cases e
theorem allWithin_l0 (l : List Int) (hn : l.length ≤ 140737488351232) (a b : Int) : ∀ (s : List Int) (i : Int), 0 ≤ i → l.drop i.toNat = s → Ev (fun k => impl_allWithin.l0 k a b l l.length i) (decide (∀ x ∈ s, a ≤ x ∧ x ≤ b))
  | [], i, h0, h => by
    refine Ev_shift ?_
    simp only [impl_allWithin.l0, if_neg (drop_nil h0 h)]
    exact Ev_some (by simp)
  | c :: s, i, h0, h => by
    refine Ev_shift ?_
    obtain ⟨h1, h2, h3⟩ := drop_cons 0 h0 h
    have h2' : rd l i = c := h2
    simp only [impl_allWithin.l0, if_pos h1, if_pos h0, h2', within_eq, Option.bind_some, decide_eq_true_eq, w64 (n := i + 1) (by omega)]
    by_cases hc : a ≤ c ∧ c ≤ b
    · simp only [if_pos hc]
      refine Ev_eq (allWithin_l0 l hn a b s (i + 1) (by omega) h3) ?_
      exact decide_eq_decide.2 ⟨fun h x hx => by
        rcases List.mem_cons.1 hx with rfl | hx
        · exact hc
        · exact h x hx, fun h x hx => h x (by simp [hx])⟩
    · simp only [if_neg hc]
      exact Ev_some (decide_eq_false (fun h => hc (h c (by simp)))).symm
theorem allWithin_ev (l : List Int) (hn : l.length ≤ 140737488351232) (a b : Int) : Ev (fun k => impl_allWithin.f k l a b) (decide (∀ x ∈ l, a ≤ x ∧ x ≤ b)) := by
  unfold impl_allWithin.f
  exact allWithin_l0 l hn a b l 0 (by omega) rfl
/-- Circuits. -/
def PCirc (x : Int) (l : List Int) : Prop := (0 ≤ x ∧ x ≤ 100000) ∧ (1 ≤ l.length ∧ l.length ≤ 10) ∧ ∀ y ∈ l, 1 ≤ y ∧ y ≤ 100000
theorem spec_IsCircuit_l0 (x : Int) (l : List Int) (hn : l.length ≤ 140737488351232) : ∀ (s : List Int) (i : Int), 0 ≤ i → l.drop i.toNat = s → Ev (fun k => spec_IsCircuit.l0 k i x l) (tt ((∀ y ∈ s, 1 ≤ y ∧ y ≤ 100000) ∧ (0 ≤ x ∧ x ≤ 100000) ∧ (1 ≤ l.length ∧ l.length ≤ 10)))
  | [], i, h0, h => by
    refine Ev_shift ?_
    simp only [spec_IsCircuit.l0, if_neg (drop_nil h0 h), l01In_eq, Option.bind_some, decide_eq_true_eq]
    by_cases c : 0 ≤ x ∧ x ≤ 100000
    · simp only [if_pos c]
      refine Ev_some ?_
      rw [← tt_dec]
      exact tt_iff ⟨fun h => ⟨fun y hy => by simp at hy, c, by omega, by omega⟩, fun h => by have := h.2.2; omega⟩
    · simp only [if_neg c]
      exact Ev_some (tt_neg (fun h => c h.2.1)).symm
  | a :: s, i, h0, h => by
    refine Ev_shift ?_
    obtain ⟨h1, h2, h3⟩ := drop_cons 0 h0 h
    have h2' : rd l i = a := h2
    simp only [spec_IsCircuit.l0, if_pos h1, if_pos h0, h2', l01In_eq, Option.bind_some, decide_eq_true_eq, w64 (n := i + 1) (by omega)]
    by_cases c : 1 ≤ a ∧ a ≤ 100000
    · simp only [if_pos c]
      refine Ev_eq (spec_IsCircuit_l0 x l hn s (i + 1) (by omega) h3) (tt_iff ⟨fun h => ⟨fun y hy => ?_, h.2⟩, fun h => ⟨fun y hy => h.1 y (by simp [hy]), h.2⟩⟩)
      rcases List.mem_cons.1 hy with rfl | hy
      · exact c
      · exact h.1 y hy
    · simp only [if_neg c]
      exact Ev_some (tt_neg (fun h => c (h.1 a (by simp)))).symm
theorem spec_IsCircuit_ev (x : Int) (l : List Int) (hn : l.length ≤ 140737488351232) : Ev (fun k => spec_IsCircuit.f k x l) (tt (PCirc x l)) := by
  unfold spec_IsCircuit.f
  exact Ev_eq (spec_IsCircuit_l0 x l hn l 0 (by omega) rfl) (tt_iff ⟨fun h => ⟨h.2.1, h.2.2, h.1⟩, fun h => ⟨h.2.2, h.1, h.2.1⟩⟩)
theorem impl_IsCircuit_ev (x : Int) (l : List Int) (hn : l.length ≤ 140737488351232) : Ev (fun k => impl_IsCircuit.f k x l) (tt (PCirc x l)) := by
  unfold impl_IsCircuit.f
  simp only [impl_isLead.f, within_eq, Option.bind_some, decide_eq_true_eq]
  by_cases c : 0 ≤ x ∧ x ≤ 100000
  · simp only [if_pos c]
    by_cases c1 : (l.length : Int) ≥ 1
    · by_cases c2 : (l.length : Int) ≤ 10
      · simp only [if_pos c1, if_pos c2]
        refine Ev.bind (allWithin_ev l hn 1 100000) (Ev_some ?_)
        rw [← tt_dec]
        exact tt_iff ⟨fun h => ⟨c, ⟨by omega, by omega⟩, h⟩, fun h => h.2.2⟩
      · simp only [if_pos c1, if_neg c2]
        exact Ev_some (tt_neg (fun h => by have := h.2.1; omega)).symm
    · simp only [if_neg c1]
      exact Ev_some (tt_neg (fun h => by have := h.2.1; omega)).symm
  · simp only [if_neg c]
    exact Ev_some (tt_neg (fun h => c h.1)).symm
def sumI : List Int → Int
  | [] => 0
  | a :: s => a + sumI s
theorem sumI_rng : ∀ (s : List Int), (∀ y ∈ s, 1 ≤ y ∧ y ≤ 100000) → (s.length : Int) ≤ sumI s ∧ sumI s ≤ 100000 * s.length
  | [], _ => by simp [sumI]
  | a :: s, h => by
    have := sumI_rng s (fun y hy => h y (by simp [hy]))
    have := h a (by simp)
    simp only [sumI, List.length_cons]
    omega
theorem circ_rng {x : Int} {l : List Int} (h : PCirc x l) : 1 ≤ x + sumI l ∧ x + sumI l ≤ 1100000 := by
  have := sumI_rng l h.2.2
  have := h.1
  have := h.2.1
  omega
theorem spec_sum_l0 (l : List Int) (hl : l.length ≤ 10) : ∀ (s : List Int) (i a : Int), 0 ≤ i → l.drop i.toNat = s → (∀ y ∈ s, 1 ≤ y ∧ y ≤ 100000) → 0 ≤ a → a + 100000 * s.length ≤ 1000000000 → Ev (fun k => spec_l01Sum.l0 k l a i) (a + sumI s)
  | [], i, a, h0, h, hs, ha, hb => by
    refine Ev_shift ?_
    simp only [spec_l01Sum.l0, if_neg (drop_nil h0 h)]
    exact Ev_some (by simp [sumI])
  | c :: s, i, a, h0, h, hs, ha, hb => by
    refine Ev_shift ?_
    obtain ⟨h1, h2, h3⟩ := drop_cons 0 h0 h
    have h2' : rd l i = c := h2
    have hc := hs c (by simp)
    simp only [List.length_cons] at hb
    simp only [spec_l01Sum.l0, if_pos h1, if_pos h0, h2', w64 (n := i + 1) (by omega), w64 (n := a + c) (by omega)]
    refine Ev_eq (spec_sum_l0 l hl s (i + 1) (a + c) (by omega) h3 (fun y hy => hs y (by simp [hy])) (by omega) (by omega)) ?_
    simp only [sumI]
    omega
theorem spec_exp_ev {x : Int} {l : List Int} (h : PCirc x l) : Ev (fun k => spec_l14Expected.f k x l) (x + sumI l) := by
  have := circ_rng h
  have hl := h.2.1
  unfold spec_l14Expected.f spec_l01Sum.f
  refine Ev.bind (spec_sum_l0 l hl.2 l 0 0 (by omega) rfl h.2.2 (by omega) (by omega)) ?_
  rw [Int.zero_add, w64 (by omega)]
  exact Ev.now _
theorem impl_sum_l0 (l : List Int) (hl : l.length ≤ 10) : ∀ (s : List Int) (i a : Int), 0 ≤ i → l.drop i.toNat = s → (∀ y ∈ s, 1 ≤ y ∧ y ≤ 100000) → 0 ≤ a → a + 100000 * s.length ≤ 1000000000 → Ev (fun k => impl_total.l0 k a l l.length i) (a + sumI s)
  | [], i, a, h0, h, hs, ha, hb => by
    refine Ev_shift ?_
    simp only [impl_total.l0, if_neg (drop_nil h0 h)]
    exact Ev_some (by simp [sumI])
  | c :: s, i, a, h0, h, hs, ha, hb => by
    refine Ev_shift ?_
    obtain ⟨h1, h2, h3⟩ := drop_cons 0 h0 h
    have h2' : rd l i = c := h2
    have hc := hs c (by simp)
    simp only [List.length_cons] at hb
    simp only [impl_total.l0, if_pos h1, if_pos h0, h2', w64 (n := i + 1) (by omega), w64 (n := a + c) (by omega)]
    refine Ev_eq (impl_sum_l0 l hl s (i + 1) (a + c) (by omega) h3 (fun y hy => hs y (by simp [hy])) (by omega) (by omega)) ?_
    simp only [sumI]
    omega
theorem impl_exp_ev {x : Int} {l : List Int} (h : PCirc x l) : Ev (fun k => impl_expectedOf.f k x l) (x + sumI l) := by
  have := circ_rng h
  have hl := h.2.1
  unfold impl_expectedOf.f impl_total.f
  refine Ev.bind (impl_sum_l0 l hl.2 l 0 0 (by omega) rfl h.2.2 (by omega) (by omega)) ?_
  rw [Int.zero_add, w64 (by omega)]
  exact Ev.now _
/-- What a reading tells about a circuit with what is expected. -/
def stateM (lead e r t : Int) : Int := if 100 * (if r - e < 0 then -(r - e) else r - e) ≤ t * e then 0 else if r ≤ lead then 2 else if r ≥ 10 * e then 1 else 3
theorem spec_state_ev {x : Int} {l : List Int} (h : PCirc x l) {r t : Int} (hr : 0 ≤ r ∧ r ≤ 1000000000) (ht : 0 ≤ t ∧ t ≤ 100) : Ev (fun k => spec_l14State.f k x l r t) (stateM x (x + sumI l) r t) := by
  have he := circ_rng h
  have hm : 0 ≤ t * (x + sumI l) ∧ t * (x + sumI l) ≤ 1000000000 := by
    have h1 : 0 ≤ t * (x + sumI l) := Int.mul_nonneg ht.1 (by omega)
    have h2 : t * (x + sumI l) ≤ 100 * (x + sumI l) := Int.mul_le_mul_of_nonneg_right ht.2 (by omega)
    omega
  unfold spec_l14State.f
  refine Ev.bind (spec_exp_ev h) ?_
  have ea : spec_l01Abs.f (r - (x + sumI l)) = some (if r - (x + sumI l) < 0 then -(r - (x + sumI l)) else r - (x + sumI l)) := by
    unfold spec_l01Abs.f mx
    rw [w64 (by omega)]
    congr 1
    split <;> split <;> omega
  rw [w64 (n := r - (x + sumI l)) (by omega), ea, Option.bind_some, w64 (n := t * (x + sumI l)) (by omega), w64 (n := 10 * (x + sumI l)) (by omega), w64 (n := 100 * (if r - (x + sumI l) < 0 then -(r - (x + sumI l)) else r - (x + sumI l))) (by split <;> omega)]
  refine Ev_eq (Ev.now (stateM x (x + sumI l) r t)) rfl |> fun h => ?_
  obtain ⟨K, hK⟩ := h
  refine ⟨0, fun k _ => ?_⟩
  unfold stateM
  show (if 100 * (if r - (x + sumI l) < 0 then -(r - (x + sumI l)) else r - (x + sumI l)) ≤ t * (x + sumI l) then some 0 else _) = _
  by_cases g1 : 100 * (if r - (x + sumI l) < 0 then -(r - (x + sumI l)) else r - (x + sumI l)) ≤ t * (x + sumI l)
  · rw [if_pos g1, if_pos g1]
  · rw [if_neg g1, if_neg g1]
    by_cases g2 : r ≤ x
    · rw [if_pos g2, if_pos g2]
    · rw [if_neg g2, if_neg g2]
      by_cases g3 : r ≥ 10 * (x + sumI l)
      · rw [if_pos g3, if_pos g3]
      · rw [if_neg g3, if_neg g3]
theorem impl_state_ev {x : Int} {l : List Int} (h : PCirc x l) {r t : Int} (hr : 0 ≤ r ∧ r ≤ 1000000000) (ht : 0 ≤ t ∧ t ≤ 100) : Ev (fun k => impl_stateOf.f k x l r t) (stateM x (x + sumI l) r t) := by
  have he := circ_rng h
  have hm : 0 ≤ t * (x + sumI l) ∧ t * (x + sumI l) ≤ 1000000000 := by
    have h1 : 0 ≤ t * (x + sumI l) := Int.mul_nonneg ht.1 (by omega)
    have h2 : t * (x + sumI l) ≤ 100 * (x + sumI l) := Int.mul_le_mul_of_nonneg_right ht.2 (by omega)
    omega
  unfold impl_stateOf.f
  refine Ev.bind (impl_exp_ev h) ?_
  have ea : impl_abs.f (r - (x + sumI l)) = some (if r - (x + sumI l) < 0 then -(r - (x + sumI l)) else r - (x + sumI l)) := by
    unfold impl_abs.f
    rw [w64 (by omega)]
    split <;> rfl
  rw [w64 (n := r - (x + sumI l)) (by omega), ea, Option.bind_some, w64 (n := t * (x + sumI l)) (by omega), w64 (n := 10 * (x + sumI l)) (by omega), w64 (n := 100 * (if r - (x + sumI l) < 0 then -(r - (x + sumI l)) else r - (x + sumI l))) (by split <;> omega)]
  refine Ev_eq (Ev.now (stateM x (x + sumI l) r t)) rfl |> fun h => ?_
  obtain ⟨K, hK⟩ := h
  refine ⟨0, fun k _ => ?_⟩
  unfold stateM
  show (if 100 * (if r - (x + sumI l) < 0 then -(r - (x + sumI l)) else r - (x + sumI l)) ≤ t * (x + sumI l) then some 0 else _) = _
  by_cases g1 : 100 * (if r - (x + sumI l) < 0 then -(r - (x + sumI l)) else r - (x + sumI l)) ≤ t * (x + sumI l)
  · rw [if_pos g1, if_pos g1]
  · rw [if_neg g1, if_neg g1]
    by_cases g2 : r ≤ x
    · rw [if_pos g2, if_pos g2]
    · rw [if_neg g2, if_neg g2]
      by_cases g3 : r ≥ 10 * (x + sumI l)
      · rw [if_pos g3, if_pos g3]
      · rw [if_neg g3, if_neg g3]
theorem ccode1_ev (x : Int) (l : List Int) (hn : l.length ≤ 1000000) (r t : Int) : Ev (fun k => spec_l14Code.f k [(⟨x, l⟩ : S73)] [r] t) (if tt (PCirc x l) = true then (if (0 ≤ r ∧ r ≤ 1000000000) ∧ 0 ≤ t ∧ t ≤ 100 then 0 else 2) else 1) := by
  unfold spec_l14Code.f
  refine Ev_shift ?_
  have g0 : (rd_T73 [(⟨x, l⟩ : S73)] 0) = ⟨x, l⟩ := rfl
  have g1 : rd [r] 0 = r := rfl
  simp only [spec_l14Code.l0, List.length_singleton, if_pos (show (0 : Int) < ((1 : Nat) : Int) by decide), if_pos (show (0 : Int) ≤ 0 by decide), g0]
  refine Ev.bind (spec_IsCircuit_ev x l (by omega)) ?_
  by_cases h : PCirc x l
  · simp only [tt_pos h, if_true, w64 (n := 0 + 1) (by omega)]
    refine Ev_shift ?_
    simp only [spec_l14Code.l0, List.length_singleton, if_neg (show ¬ (0 + 1 : Int) < ((1 : Nat) : Int) by decide), if_neg (show ¬ ((1 : Nat) : Int) > 32 by decide)]
    refine Ev_shift ?_
    simp only [spec_l14Code.l1, List.length_singleton, if_pos (show (0 : Int) < ((1 : Nat) : Int) by decide), if_pos (show (0 : Int) ≤ 0 by decide), g1, l01In_eq, Option.bind_some, decide_eq_true_eq]
    by_cases c1 : 0 ≤ r ∧ r ≤ 1000000000
    · simp only [if_pos c1, w64 (n := 0 + 1) (by omega)]
      refine Ev_shift ?_
      simp only [spec_l14Code.l1, List.length_singleton, if_neg (show ¬ (0 + 1 : Int) < ((1 : Nat) : Int) by decide), l01In_eq, Option.bind_some, decide_eq_true_eq, if_true]
      by_cases c2 : 0 ≤ t ∧ t ≤ 100
      · simp only [if_pos c2, if_pos (show (0 ≤ r ∧ r ≤ 1000000000) ∧ 0 ≤ t ∧ t ≤ 100 from ⟨c1, c2⟩)]
        exact Ev.now _
      · simp only [if_neg c2, if_neg (show ¬ ((0 ≤ r ∧ r ≤ 1000000000) ∧ 0 ≤ t ∧ t ≤ 100) from fun h => c2 h.2)]
        exact Ev.now _
    · simp only [if_neg c1, if_neg (show ¬ ((0 ≤ r ∧ r ≤ 1000000000) ∧ 0 ≤ t ∧ t ≤ 100) from fun h => c1 h.1)]
      exact Ev.now _
  · simp only [tt_neg h, Bool.false_eq_true, if_false]
    exact Ev.now _
theorem agree_StateOf (m0_0 : Int) (m0_1 : List Int) (a1 : Int) (a2 : Int) (hn0_1 : m0_1.length ≤ 1000000) (hq0_0 : I64 m0_0) (hq0_1 : ∀ x ∈ m0_1, I64 x) (q1 : I64 a1) (q2 : I64 a2) : ∃ (K : Nat) (r1 : Int) (r2 : Int), ∀ k, K ≤ k → spec_StateOf.f k m0_0 m0_1 a1 a2 = some (r1, r2) ∧ impl_StateOf.f k m0_0 m0_1 a1 a2 = some (r1, r2) := by
  have fin : ∀ q : Int × Int, Ev (fun k => spec_StateOf.f k m0_0 m0_1 a1 a2) q → Ev (fun k => impl_StateOf.f k m0_0 m0_1 a1 a2) q → ∃ (K : Nat) (r1 : Int) (r2 : Int), ∀ k, K ≤ k → spec_StateOf.f k m0_0 m0_1 a1 a2 = some (r1, r2) ∧ impl_StateOf.f k m0_0 m0_1 a1 a2 = some (r1, r2) := by
    rintro ⟨x, y⟩ e1 e2
    obtain ⟨K, hk⟩ := Ev_both e1 e2
    exact ⟨K, x, y, hk⟩
  have hs := ccode1_ev m0_0 m0_1 hn0_1 a1 a2
  have hi := impl_IsCircuit_ev m0_0 m0_1 (by omega)
  by_cases h : PCirc m0_0 m0_1
  · simp only [tt_pos h, if_true] at hs hi
    by_cases c1 : 0 ≤ a1 ∧ a1 ≤ 1000000000
    · by_cases c2 : 0 ≤ a2 ∧ a2 ≤ 100
      · rw [if_pos ⟨c1, c2⟩] at hs
        refine fin (stateM m0_0 (m0_0 + sumI m0_1) a1 a2, 0) ?_ ?_
        · unfold spec_StateOf.f
          refine Ev.bind hs ?_
          simp only [if_true]
          exact Ev.bind (spec_state_ev h c1 c2) (Ev.now _)
        · unfold impl_StateOf.f
          refine Ev.bind hi ?_
          simp only [if_true, impl_isReading.f, within_eq, Option.bind_some, decide_eq_true_eq, if_pos c1, if_pos c2]
          exact Ev.bind (impl_state_ev h c1 c2) (Ev.now _)
      · rw [if_neg (fun hh => c2 hh.2)] at hs
        refine fin (0, 2) ?_ ?_
        · unfold spec_StateOf.f
          exact Ev.bind hs (Ev.now _)
        · unfold impl_StateOf.f
          refine Ev.bind hi ?_
          simp only [if_true, impl_isReading.f, within_eq, Option.bind_some, decide_eq_true_eq, if_pos c1, if_neg c2]
          exact Ev.now _
    · rw [if_neg (fun hh => c1 hh.1)] at hs
      refine fin (0, 2) ?_ ?_
      · unfold spec_StateOf.f
        exact Ev.bind hs (Ev.now _)
      · unfold impl_StateOf.f
        refine Ev.bind hi ?_
        simp only [if_true, impl_isReading.f, within_eq, Option.bind_some, decide_eq_true_eq, if_neg c1]
        exact Ev.now _
  · simp only [tt_neg h, Bool.false_eq_true, if_false] at hs hi
    refine fin (0, 1) ?_ ?_
    · unfold spec_StateOf.f
      exact Ev.bind hs (Ev.now _)
    · unfold impl_StateOf.f
      refine Ev.bind hi ?_
      simp only [Bool.false_eq_true, if_false]
      exact Ev.now _
end Go.Proofs.Ytmemamokmeonjaa.Pure
