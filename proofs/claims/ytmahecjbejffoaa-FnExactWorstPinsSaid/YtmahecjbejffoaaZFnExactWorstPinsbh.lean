/- PureFnExactWorstPins of the law FnExactWorstPins: taken over, declaration by declaration, as far as the law leans on it (the words and the printed functions are the kit's own print). No condition but what each says. -/
import Derived.Test.YtmahecjbejffoaaZFnExactWorstPinsbg
import Derived.Test.YtmahecjbejffoaaZFnExactWorstPinsba
namespace Go.Proofs.Ytmahecjbejffoaa.Pure
open Go.RowKit Go.Proofs.Ytmahecjbejffoaa.PFnExactWorstPins Go.Proofs.YtmahecjbejffoaaW.PrintWords Go.Proofs.YtmahecjbejffoaaW.PrintLast Go.Proofs.Ytmahecjbejffoaa.Opening
set_option linter.unusedVariables false
set_option linter.unusedSimpArgs false
theorem w64 {n : Int} (h : -9223372036854775808 ≤ n ∧ n ≤ 9223372036854775807) : wrap64 n = n := by
  unfold wrap64
  omega
theorem l01In_eq (a b c : Int) : spec_l01In.f a b c = some (decide (b ≤ a ∧ a ≤ c)) := by
  unfold spec_l01In.f
  by_cases h : b ≤ a <;> simp [h]
theorem within_eq (a b c : Int) : impl_within.f a b c = some (decide (b ≤ a ∧ a ≤ c)) := by
  unfold impl_within.f
  by_cases h : b ≤ a <;> simp [h]
theorem drop_cons {α : Type} {l : List α} {i : Int} {a : α} {s : List α} (z : α) (h0 : 0 ≤ i) (h : l.drop i.toNat = a :: s) : i < l.length ∧ l.getD i.toNat z = a ∧ l.drop (i + 1).toNat = s := by
  have hlt : i.toNat < l.length := by
    rcases Nat.lt_or_ge i.toNat l.length with h1 | h1
    · exact h1
    · rw [List.drop_eq_nil_of_le h1] at h; cases h
  rw [List.drop_eq_getElem_cons hlt] at h
  injection h with h1 h2
  refine ⟨by omega, ?_, ?_⟩
  · rw [List.getD_eq_getElem?_getD, List.getElem?_eq_getElem hlt]; exact h1
  · rw [show (i + 1).toNat = i.toNat + 1 by omega]; exact h2
theorem drop_nil {α : Type} {l : List α} {i : Int} (h0 : 0 ≤ i) (h : l.drop i.toNat = []) : ¬ i < (l.length : Int) := by
  have := List.drop_eq_nil_iff.1 h
  omega
theorem Ev_shift {α : Type} {g : Nat → Option α} {r : α} (h : Ev (fun k => g (k + 1)) r) : Ev g r := Ev.step (fun _ => rfl) h
theorem Ev_both {α β : Type} {g : Nat → Option α} {f : Nat → Option β} {r : α} {q : β} (h1 : Ev g r) (h2 : Ev f q) : ∃ K, ∀ k, K ≤ k → g k = some r ∧ f k = some q := by
  obtain ⟨K, h1⟩ := h1
  obtain ⟨K', h2⟩ := h2
  exact ⟨max K K', fun k hk => ⟨h1 k (by omega), h2 k (by omega)⟩⟩
theorem Ev_eq {α : Type} {g : Nat → Option α} {r q : α} (h : Ev g r) (e : r = q) : Ev g q := e ▸ h
theorem Ev_some {α : Type} {r q : α} (e : r = q) : Ev (fun _ => some r) q := e ▸ Ev.now r
noncomputable def tt (p : Prop) : Bool := @decide p (Classical.propDecidable p)
theorem tt_pos {p : Prop} (h : p) : tt p = true := by unfold tt; exact @decide_eq_true p (Classical.propDecidable p) h
theorem tt_neg {p : Prop} (h : ¬ p) : tt p = false := by unfold tt; exact @decide_eq_false p (Classical.propDecidable p) h
theorem tt_dec (p : Prop) [i : Decidable p] : tt p = decide p := by
  by_cases h : p
  · rw [tt_pos h, decide_eq_true h]
  · rw [tt_neg h, decide_eq_false h]
theorem tt_iff {p q : Prop} (h : p ↔ q) : tt p = tt q := by rw [propext h]
theorem ev_all {L : Int → Nat → Option Bool} {P : Int → Prop} {n : Int} {fin : Bool} (h1 : ∀ i, 0 ≤ i → i < n → P i → ∀ r, Ev (L (i + 1)) r → Ev (L i) r) (h2 : ∀ i, 0 ≤ i → i < n → ¬ P i → Ev (L i) false) (h3 : Ev (L n) fin) :
    ∀ (d : Nat) (i : Int), 0 ≤ i → i + d = n → Ev (L i) (fin && tt (∀ j, i ≤ j → j < n → P j))
  | 0, i, h0, hd => by
    have e : i = n := by omega
    rw [e, tt_pos (fun j h1 h2 => by omega), Bool.and_true]
    exact h3
  | d + 1, i, h0, hd => by
    by_cases hp : P i
    · have := h1 i h0 (by omega) hp _ (ev_all h1 h2 h3 d (i + 1) (by omega) (by omega))
      refine Ev_eq this ?_
      congr 1
      exact tt_iff ⟨fun h j h1 h2 => by
        by_cases e : j = i
        · rw [e]; exact hp
        · exact h j (by omega) h2, fun h j h1 h2 => h j (by omega) h2⟩
    · rw [tt_neg (fun h => hp (h i (Int.le_refl _) (by omega))), Bool.and_false]
      exact h2 i h0 (by omega) hp
/-- The numbers from i on, d of them looked at, that are told true. -/
def idxF (p : Int → Bool) : Nat → Int → List Int
  | 0, _ => []
  | d + 1, i => if p i = true then i :: idxF p d (i + 1) else idxF p d (i + 1)
theorem idxF_length (p : Int → Bool) : ∀ (d : Nat) (i : Int), (idxF p d i).length ≤ d
  | 0, _ => Nat.le_refl _
  | d + 1, i => by
    unfold idxF
    have := idxF_length p d (i + 1)
    split
    · simp only [List.length_cons]
      omega
    · omega
theorem allWithin_l0 (l : List Int) (hn : l.length ≤ 140737488351232) (a b : Int) : ∀ (s : List Int) (i : Int), 0 ≤ i → l.drop i.toNat = s → Ev (fun k => impl_allWithin.l0 k a b l l.length i) (decide (∀ x ∈ s, a ≤ x ∧ x ≤ b))
  | [], i, h0, h => by
    refine Ev_shift ?_
    simp only [impl_allWithin.l0, if_neg (drop_nil h0 h)]
    exact Ev_some (by simp)
  | c :: s, i, h0, h => by
    refine Ev_shift ?_
    obtain ⟨h1, h2, h3⟩ := drop_cons 0 h0 h
    have h2' : rd l i = c := h2
    simp only [impl_allWithin.l0, if_pos h1, if_pos h0, h2', within_eq, Option.bind_some, decide_eq_true_eq, w64 (n := i + 1) (by omega)]
    by_cases hc : a ≤ c ∧ c ≤ b
    · simp only [if_pos hc]
      refine Ev_eq (allWithin_l0 l hn a b s (i + 1) (by omega) h3) ?_
      exact decide_eq_decide.2 ⟨fun h x hx => by
        rcases List.mem_cons.1 hx with rfl | hx
        · exact hc
        · exact h x hx, fun h x hx => h x (by simp [hx])⟩
    · simp only [if_neg hc]
      exact Ev_some (decide_eq_false (fun h => hc (h c (by simp)))).symm
theorem allWithin_ev (l : List Int) (hn : l.length ≤ 140737488351232) (a b : Int) : Ev (fun k => impl_allWithin.f k l a b) (decide (∀ x ∈ l, a ≤ x ∧ x ≤ b)) := by
  unfold impl_allWithin.f
  exact allWithin_l0 l hn a b l 0 (by omega) rfl
/-- Circuits. -/
def PCirc (x : Int) (l : List Int) : Prop := (0 ≤ x ∧ x ≤ 100000) ∧ (1 ≤ l.length ∧ l.length ≤ 10) ∧ ∀ y ∈ l, 1 ≤ y ∧ y ≤ 100000
theorem spec_IsCircuit_l0 (x : Int) (l : List Int) (hn : l.length ≤ 140737488351232) : ∀ (s : List Int) (i : Int), 0 ≤ i → l.drop i.toNat = s → Ev (fun k => spec_IsCircuit.l0 k i x l) (tt ((∀ y ∈ s, 1 ≤ y ∧ y ≤ 100000) ∧ (0 ≤ x ∧ x ≤ 100000) ∧ (1 ≤ l.length ∧ l.length ≤ 10)))
  | [], i, h0, h => by
    refine Ev_shift ?_
    simp only [spec_IsCircuit.l0, if_neg (drop_nil h0 h), l01In_eq, Option.bind_some, decide_eq_true_eq]
    by_cases c : 0 ≤ x ∧ x ≤ 100000
    · simp only [if_pos c]
      refine Ev_some ?_
      rw [← tt_dec]
      exact tt_iff ⟨fun h => ⟨fun y hy => by simp at hy, c, by omega, by omega⟩, fun h => by have := h.2.2; omega⟩
    · simp only [if_neg c]
      exact Ev_some (tt_neg (fun h => c h.2.1)).symm
  | a :: s, i, h0, h => by
    refine Ev_shift ?_
    obtain ⟨h1, h2, h3⟩ := drop_cons 0 h0 h
    have h2' : rd l i = a := h2
    simp only [spec_IsCircuit.l0, if_pos h1, if_pos h0, h2', l01In_eq, Option.bind_some, decide_eq_true_eq, w64 (n := i + 1) (by omega)]
    by_cases c : 1 ≤ a ∧ a ≤ 100000
    · simp only [if_pos c]
      refine Ev_eq (spec_IsCircuit_l0 x l hn s (i + 1) (by omega) h3) (tt_iff ⟨fun h => ⟨fun y hy => ?_, h.2⟩, fun h => ⟨fun y hy => h.1 y (by simp [hy]), h.2⟩⟩)
      rcases List.mem_cons.1 hy with rfl | hy
      · exact c
      · exact h.1 y hy
    · simp only [if_neg c]
      exact Ev_some (tt_neg (fun h => c (h.1 a (by simp)))).symm
theorem spec_IsCircuit_ev (x : Int) (l : List Int) (hn : l.length ≤ 140737488351232) : Ev (fun k => spec_IsCircuit.f k x l) (tt (PCirc x l)) := by
  unfold spec_IsCircuit.f
  exact Ev_eq (spec_IsCircuit_l0 x l hn l 0 (by omega) rfl) (tt_iff ⟨fun h => ⟨h.2.1, h.2.2, h.1⟩, fun h => ⟨h.2.2, h.1, h.2.1⟩⟩)
theorem impl_IsCircuit_ev (x : Int) (l : List Int) (hn : l.length ≤ 140737488351232) : Ev (fun k => impl_IsCircuit.f k x l) (tt (PCirc x l)) := by
  unfold impl_IsCircuit.f
  simp only [impl_isLead.f, within_eq, Option.bind_some, decide_eq_true_eq]
  by_cases c : 0 ≤ x ∧ x ≤ 100000
  · simp only [if_pos c]
    by_cases c1 : (l.length : Int) ≥ 1
    · by_cases c2 : (l.length : Int) ≤ 10
      · simp only [if_pos c1, if_pos c2]
        refine Ev.bind (allWithin_ev l hn 1 100000) (Ev_some ?_)
        rw [← tt_dec]
        exact tt_iff ⟨fun h => ⟨c, ⟨by omega, by omega⟩, h⟩, fun h => h.2.2⟩
      · simp only [if_pos c1, if_neg c2]
        exact Ev_some (tt_neg (fun h => by have := h.2.1; omega)).symm
    · simp only [if_neg c1]
      exact Ev_some (tt_neg (fun h => by have := h.2.1; omega)).symm
  · simp only [if_neg c]
    exact Ev_some (tt_neg (fun h => c h.1)).symm
def sumI : List Int → Int
  | [] => 0
  | a :: s => a + sumI s
theorem sumI_rng : ∀ (s : List Int), (∀ y ∈ s, 1 ≤ y ∧ y ≤ 100000) → (s.length : Int) ≤ sumI s ∧ sumI s ≤ 100000 * s.length
  | [], _ => by simp [sumI]
  | a :: s, h => by
    have := sumI_rng s (fun y hy => h y (by simp [hy]))
    have := h a (by simp)
    simp only [sumI, List.length_cons]
    omega
theorem circ_rng {x : Int} {l : List Int} (h : PCirc x l) : 1 ≤ x + sumI l ∧ x + sumI l ≤ 1100000 := by
  have := sumI_rng l h.2.2
  have := h.1
  have := h.2.1
  omega
theorem spec_sum_l0 (l : List Int) (hl : l.length ≤ 10) : ∀ (s : List Int) (i a : Int), 0 ≤ i → l.drop i.toNat = s → (∀ y ∈ s, 1 ≤ y ∧ y ≤ 100000) → 0 ≤ a → a + 100000 * s.length ≤ 1000000000 → Ev (fun k => spec_l01Sum.l0 k l a i) (a + sumI s)
  | [], i, a, h0, h, hs, ha, hb => by
    refine Ev_shift ?_
    simp only [spec_l01Sum.l0, if_neg (drop_nil h0 h)]
    exact Ev_some (by simp [sumI])
  | c :: s, i, a, h0, h, hs, ha, hb => by
    refine Ev_shift ?_
    obtain ⟨h1, h2, h3⟩ := drop_cons 0 h0 h
    have h2' : rd l i = c := h2
    have hc := hs c (by simp)
    simp only [List.length_cons] at hb
    simp only [spec_l01Sum.l0, if_pos h1, if_pos h0, h2', w64 (n := i + 1) (by omega), w64 (n := a + c) (by omega)]
    refine Ev_eq (spec_sum_l0 l hl s (i + 1) (a + c) (by omega) h3 (fun y hy => hs y (by simp [hy])) (by omega) (by omega)) ?_
    simp only [sumI]
    omega
theorem spec_exp_ev {x : Int} {l : List Int} (h : PCirc x l) : Ev (fun k => spec_l14Expected.f k x l) (x + sumI l) := by
  have := circ_rng h
  have hl := h.2.1
  unfold spec_l14Expected.f spec_l01Sum.f
  refine Ev.bind (spec_sum_l0 l hl.2 l 0 0 (by omega) rfl h.2.2 (by omega) (by omega)) ?_
  rw [Int.zero_add, w64 (by omega)]
  exact Ev.now _
theorem impl_sum_l0 (l : List Int) (hl : l.length ≤ 10) : ∀ (s : List Int) (i a : Int), 0 ≤ i → l.drop i.toNat = s → (∀ y ∈ s, 1 ≤ y ∧ y ≤ 100000) → 0 ≤ a → a + 100000 * s.length ≤ 1000000000 → Ev (fun k => impl_total.l0 k a l l.length i) (a + sumI s)
  | [], i, a, h0, h, hs, ha, hb => by
    refine Ev_shift ?_
    simp only [impl_total.l0, if_neg (drop_nil h0 h)]
    exact Ev_some (by simp [sumI])
  | c :: s, i, a, h0, h, hs, ha, hb => by
    refine Ev_shift ?_
    obtain ⟨h1, h2, h3⟩ := drop_cons 0 h0 h
    have h2' : rd l i = c := h2
    have hc := hs c (by simp)
    simp only [List.length_cons] at hb
    simp only [impl_total.l0, if_pos h1, if_pos h0, h2', w64 (n := i + 1) (by omega), w64 (n := a + c) (by omega)]
    refine Ev_eq (impl_sum_l0 l hl s (i + 1) (a + c) (by omega) h3 (fun y hy => hs y (by simp [hy])) (by omega) (by omega)) ?_
    simp only [sumI]
    omega
theorem impl_exp_ev {x : Int} {l : List Int} (h : PCirc x l) : Ev (fun k => impl_expectedOf.f k x l) (x + sumI l) := by
  have := circ_rng h
  have hl := h.2.1
  unfold impl_expectedOf.f impl_total.f
  refine Ev.bind (impl_sum_l0 l hl.2 l 0 0 (by omega) rfl h.2.2 (by omega) (by omega)) ?_
  rw [Int.zero_add, w64 (by omega)]
  exact Ev.now _
/-- What a reading tells about a circuit with what is expected. -/
def stateM (lead e r t : Int) : Int := if 100 * (if r - e < 0 then -(r - e) else r - e) ≤ t * e then 0 else if r ≤ lead then 2 else if r ≥ 10 * e then 1 else 3
theorem spec_state_ev {x : Int} {l : List Int} (h : PCirc x l) {r t : Int} (hr : 0 ≤ r ∧ r ≤ 1000000000) (ht : 0 ≤ t ∧ t ≤ 100) : Ev (fun k => spec_l14State.f k x l r t) (stateM x (x + sumI l) r t) := by
  have he := circ_rng h
  have hm : 0 ≤ t * (x + sumI l) ∧ t * (x + sumI l) ≤ 1000000000 := by
    have h1 : 0 ≤ t * (x + sumI l) := Int.mul_nonneg ht.1 (by omega)
    have h2 : t * (x + sumI l) ≤ 100 * (x + sumI l) := Int.mul_le_mul_of_nonneg_right ht.2 (by omega)
    omega
  unfold spec_l14State.f
  refine Ev.bind (spec_exp_ev h) ?_
  have ea : spec_l01Abs.f (r - (x + sumI l)) = some (if r - (x + sumI l) < 0 then -(r - (x + sumI l)) else r - (x + sumI l)) := by
    unfold spec_l01Abs.f mx
    rw [w64 (by omega)]
    congr 1
    split <;> split <;> omega
  rw [w64 (n := r - (x + sumI l)) (by omega), ea, Option.bind_some, w64 (n := t * (x + sumI l)) (by omega), w64 (n := 10 * (x + sumI l)) (by omega), w64 (n := 100 * (if r - (x + sumI l) < 0 then -(r - (x + sumI l)) else r - (x + sumI l))) (by split <;> omega)]
  refine Ev_eq (Ev.now (stateM x (x + sumI l) r t)) rfl |> fun h => ?_
  obtain ⟨K, hK⟩ := h
  refine ⟨0, fun k _ => ?_⟩
  unfold stateM
  show (if 100 * (if r - (x + sumI l) < 0 then -(r - (x + sumI l)) else r - (x + sumI l)) ≤ t * (x + sumI l) then some 0 else _) = _
  by_cases g1 : 100 * (if r - (x + sumI l) < 0 then -(r - (x + sumI l)) else r - (x + sumI l)) ≤ t * (x + sumI l)
  · rw [if_pos g1, if_pos g1]
  · rw [if_neg g1, if_neg g1]
    by_cases g2 : r ≤ x
    · rw [if_pos g2, if_pos g2]
    · rw [if_neg g2, if_neg g2]
      by_cases g3 : r ≥ 10 * (x + sumI l)
      · rw [if_pos g3, if_pos g3]
      · rw [if_neg g3, if_neg g3]
theorem impl_state_ev {x : Int} {l : List Int} (h : PCirc x l) {r t : Int} (hr : 0 ≤ r ∧ r ≤ 1000000000) (ht : 0 ≤ t ∧ t ≤ 100) : Ev (fun k => impl_stateOf.f k x l r t) (stateM x (x + sumI l) r t) := by
  have he := circ_rng h
  have hm : 0 ≤ t * (x + sumI l) ∧ t * (x + sumI l) ≤ 1000000000 := by
    have h1 : 0 ≤ t * (x + sumI l) := Int.mul_nonneg ht.1 (by omega)
    have h2 : t * (x + sumI l) ≤ 100 * (x + sumI l) := Int.mul_le_mul_of_nonneg_right ht.2 (by omega)
    omega
  unfold impl_stateOf.f
  refine Ev.bind (impl_exp_ev h) ?_
  have ea : impl_abs.f (r - (x + sumI l)) = some (if r - (x + sumI l) < 0 then -(r - (x + sumI l)) else r - (x + sumI l)) := by
    unfold impl_abs.f
    rw [w64 (by omega)]
    split <;> rfl
  rw [w64 (n := r - (x + sumI l)) (by omega), ea, Option.bind_some, w64 (n := t * (x + sumI l)) (by omega), w64 (n := 10 * (x + sumI l)) (by omega), w64 (n := 100 * (if r - (x + sumI l) < 0 then -(r - (x + sumI l)) else r - (x + sumI l))) (by split <;> omega)]
  refine Ev_eq (Ev.now (stateM x (x + sumI l) r t)) rfl |> fun h => ?_
  obtain ⟨K, hK⟩ := h
  refine ⟨0, fun k _ => ?_⟩
  unfold stateM
  show (if 100 * (if r - (x + sumI l) < 0 then -(r - (x + sumI l)) else r - (x + sumI l)) ≤ t * (x + sumI l) then some 0 else _) = _
  by_cases g1 : 100 * (if r - (x + sumI l) < 0 then -(r - (x + sumI l)) else r - (x + sumI l)) ≤ t * (x + sumI l)
  · rw [if_pos g1, if_pos g1]
  · rw [if_neg g1, if_neg g1]
    by_cases g2 : r ≤ x
    · rw [if_pos g2, if_pos g2]
    · rw [if_neg g2, if_neg g2]
      by_cases g3 : r ≥ 10 * (x + sumI l)
      · rw [if_pos g3, if_pos g3]
      · rw [if_neg g3, if_neg g3]
def PCs (l : List S26) (j : Int) : Prop := PCirc (rd_T26 l j).f0 (rd_T26 l j).f1
def WC1 (l : List S26) : Prop := (l.length : Int) ≤ 32 ∧ ∀ j : Int, 0 ≤ j → j < (l.length : Int) → PCs l j
def WC2 (l : List S26) (r : List Int) (t : Int) : Prop := (∀ j : Int, 0 ≤ j → j < (r.length : Int) → 0 ≤ rd r j ∧ rd r j ≤ 1000000000) ∧ (r.length : Int) = (l.length : Int) ∧ 0 ≤ t ∧ t ≤ 100
theorem rdC_mem (l : List S26) (i : Int) (h0 : 0 ≤ i) (h1 : i < (l.length : Int)) : rd_T26 l i ∈ l := by
  show l.getD _ _ ∈ l
  rw [List.getD_eq_getElem?_getD, List.getElem?_eq_getElem (by omega)]
  exact List.getElem_mem _
noncomputable def wcodeF (l : List S26) (r : List Int) (t : Int) : Int := if tt (WC1 l) = true then (if tt (WC2 l r t) = true then 0 else 2) else 1
theorem wp_code_l1 (l : List S26) (r : List Int) (hr : r.length ≤ 1000000) (t : Int) : ∀ (d : Nat) (i : Int), 0 ≤ i → i + d = r.length → (∀ j : Int, 0 ≤ j → j < i → 0 ≤ rd r j ∧ rd r j ≤ 1000000000) → Ev (fun k => spec_l14Code.l1 k l r t i) (if tt (WC2 l r t) = true then 0 else 2)
  | 0, i, h0, hd, hp => by
    refine Ev_shift ?_
    by_cases c : (r.length : Int) = (l.length : Int)
    · by_cases c2 : 0 ≤ t ∧ t ≤ 100
      · rw [tt_pos (show WC2 l r t from ⟨fun j j0 j1 => hp j j0 (by omega), c, c2⟩), if_pos rfl]
        simp only [spec_l14Code.l1, if_neg (show ¬ i < (r.length : Int) by omega), if_pos c, l01In_eq, Option.bind_some, decide_eq_true c2, if_true]
        exact Ev.now _
      · rw [tt_neg (fun h : WC2 l r t => c2 h.2.2), if_neg (by decide)]
        simp only [spec_l14Code.l1, if_neg (show ¬ i < (r.length : Int) by omega), if_pos c, l01In_eq, Option.bind_some, decide_eq_false c2, Bool.false_eq_true, if_false]
        exact Ev.now _
    · rw [tt_neg (fun h : WC2 l r t => c h.2.1), if_neg (by decide)]
      simp only [spec_l14Code.l1, if_neg (show ¬ i < (r.length : Int) by omega), if_neg c]
      exact Ev.now _
  | d + 1, i, h0, hd, hp => by
    refine Ev_shift ?_
    by_cases c : 0 ≤ rd r i ∧ rd r i ≤ 1000000000
    · simp only [spec_l14Code.l1, if_pos (show i < (r.length : Int) by omega), if_pos h0, l01In_eq, Option.bind_some, decide_eq_true c, if_true, w64 (n := i + 1) (by omega)]
      exact wp_code_l1 l r hr t d (i + 1) (by omega) (by omega) (fun j j0 j1 => by
        by_cases e : j = i
        · rw [e]; exact c
        · exact hp j j0 (by omega))
    · rw [tt_neg (fun h : WC2 l r t => c (h.1 i h0 (by omega))), if_neg (by decide)]
      simp only [spec_l14Code.l1, if_pos (show i < (r.length : Int) by omega), if_pos h0, l01In_eq, Option.bind_some, decide_eq_false c, Bool.false_eq_true, if_false]
      exact Ev.now _
theorem wp_code_l0 (l : List S26) (hl : l.length ≤ 1000000) (hx : ∀ x ∈ l, x.f1.length ≤ 1000000) (r : List Int) (hr : r.length ≤ 1000000) (t : Int) : ∀ (d : Nat) (i : Int), 0 ≤ i → i + d = l.length → (∀ j : Int, 0 ≤ j → j < i → PCs l j) → Ev (fun k => spec_l14Code.l0 k l r t i) (wcodeF l r t)
  | 0, i, h0, hd, hp => by
    refine Ev_shift ?_
    unfold wcodeF
    by_cases c : (l.length : Int) > 32
    · rw [tt_neg (fun h : WC1 l => by have := h.1; omega), if_neg (by decide)]
      simp only [spec_l14Code.l0, if_neg (show ¬ i < (l.length : Int) by omega), if_pos c]
      exact Ev.now _
    · rw [tt_pos (show WC1 l from ⟨by omega, fun j j0 j1 => hp j j0 (by omega)⟩), if_pos rfl]
      simp only [spec_l14Code.l0, if_neg (show ¬ i < (l.length : Int) by omega), if_neg c]
      exact wp_code_l1 l r hr t r.length 0 (by omega) (by omega) (fun j j0 j1 => by omega)
  | d + 1, i, h0, hd, hp => by
    refine Ev_shift ?_
    have hm := hx _ (rdC_mem l i h0 (by omega))
    have hc := spec_IsCircuit_ev (rd_T26 l i).f0 (rd_T26 l i).f1 (by omega)
    by_cases c : PCs l i
    · rw [tt_pos (show PCirc _ _ from c)] at hc
      simp only [spec_l14Code.l0, if_pos (show i < (l.length : Int) by omega), if_pos h0]
      refine Ev.bind hc ?_
      simp only [if_true, w64 (n := i + 1) (by omega)]
      exact wp_code_l0 l hl hx r hr t d (i + 1) (by omega) (by omega) (fun j j0 j1 => by
        by_cases e : j = i
        · rw [e]; exact c
        · exact hp j j0 (by omega))
    · rw [tt_neg (show ¬ PCirc _ _ from c)] at hc
      unfold wcodeF
      rw [tt_neg (fun h : WC1 l => c (h.2 i h0 (by omega))), if_neg (by decide)]
      simp only [spec_l14Code.l0, if_pos (show i < (l.length : Int) by omega), if_pos h0]
      refine Ev.bind hc ?_
      simp only [Bool.false_eq_true, if_false]
      exact Ev.now _
def oddF (l : List S26) (r : List Int) (t : Int) (i : Int) : Bool := decide (¬ stateM (rd_T26 l i).f0 ((rd_T26 l i).f0 + sumI (rd_T26 l i).f1) (rd r i) t = 0)
theorem spec_worst_l0 {l : List S26} (h1 : WC1 l) {r : List Int} {t : Int} (h2 : WC2 l r t) : ∀ (d : Nat) (i : Int) (out : List Int), 0 ≤ i → i + d = l.length → (out.length : Int) ≤ i → Ev (fun k => spec_WorstPins.l0 k l r t out i) (out ++ idxF (oddF l r t) d i, 0)
  | 0, i, out, h0, hd, ho => by
    refine Ev_shift ?_
    simp only [spec_WorstPins.l0, if_neg (show ¬ i < (l.length : Int) by omega), idxF, List.append_nil]
    exact Ev.now _
  | d + 1, i, out, h0, hd, ho => by
    have hl := h1.1
    have he := h2.2.1
    have hs := spec_state_ev (h1.2 i h0 (by omega)) (h2.1 i h0 (by omega)) h2.2.2
    refine Ev_shift ?_
    simp only [spec_WorstPins.l0, if_pos (show i < (l.length : Int) by omega), if_pos h0, if_pos (show i < (r.length : Int) by omega)]
    refine Ev.bind hs ?_
    by_cases c : stateM (rd_T26 l i).f0 ((rd_T26 l i).f0 + sumI (rd_T26 l i).f1) (rd r i) t = 0
    · simp only [if_pos c, w64 (n := i + 1) (by omega)]
      unfold idxF
      rw [if_neg (show ¬ oddF l r t i = true by unfold oddF; simp [c])]
      exact spec_worst_l0 h1 h2 d (i + 1) out (by omega) (by omega) (by omega)
    · simp only [if_neg c, w64 (n := i + 1) (by omega), if_pos (show out.length < 17592186044416 by omega)]
      unfold idxF
      rw [if_pos (show oddF l r t i = true by unfold oddF; simp [c])]
      refine Ev_eq (spec_worst_l0 h1 h2 d (i + 1) (out ++ [i]) (by omega) (by omega) (by simp; omega)) ?_
      simp
theorem impl_worst_l1 {l : List S26} (h1 : WC1 l) {r : List Int} {t : Int} (h2 : WC2 l r t) : ∀ (d : Nat) (i : Int) (out : List Int), 0 ≤ i → i + d = l.length → (out.length : Int) ≤ i → Ev (fun k => impl_WorstPins.l1 k r t out l (l.length : Int) i) (out ++ idxF (oddF l r t) d i, 0)
  | 0, i, out, h0, hd, ho => by
    refine Ev_shift ?_
    simp only [impl_WorstPins.l1, if_neg (show ¬ i < (l.length : Int) by omega), idxF, List.append_nil]
    exact Ev.now _
  | d + 1, i, out, h0, hd, ho => by
    have hl := h1.1
    have he := h2.2.1
    have hs := impl_state_ev (h1.2 i h0 (by omega)) (h2.1 i h0 (by omega)) h2.2.2
    refine Ev_shift ?_
    simp only [impl_WorstPins.l1, if_pos (show i < (l.length : Int) by omega), if_pos h0, if_pos (show i < (r.length : Int) by omega)]
    refine Ev.bind hs ?_
    by_cases c : stateM (rd_T26 l i).f0 ((rd_T26 l i).f0 + sumI (rd_T26 l i).f1) (rd r i) t = 0
    · simp only [if_pos c, w64 (n := i + 1) (by omega)]
      unfold idxF
      rw [if_neg (show ¬ oddF l r t i = true by unfold oddF; simp [c])]
      exact impl_worst_l1 h1 h2 d (i + 1) out (by omega) (by omega) (by omega)
    · simp only [if_neg c, w64 (n := i + 1) (by omega), if_pos (show out.length < 17592186044416 by omega)]
      unfold idxF
      rw [if_pos (show oddF l r t i = true by unfold oddF; simp [c])]
      refine Ev_eq (impl_worst_l1 h1 h2 d (i + 1) (out ++ [i]) (by omega) (by omega) (by simp; omega)) ?_
      simp
noncomputable def worstF (l : List S26) (r : List Int) (t : Int) : List Int × Int := if wcodeF l r t = 0 then (idxF (oddF l r t) l.length 0, 0) else ([], wcodeF l r t)
theorem impl_worst_l0 (l : List S26) (hl : (l.length : Int) ≤ 32) (hx : ∀ x ∈ l, x.f1.length ≤ 1000000) (r : List Int) (hr : r.length ≤ 1000000) (t : Int) : ∀ (d : Nat) (i : Int), 0 ≤ i → i + d = l.length → (∀ j : Int, 0 ≤ j → j < i → PCs l j) → Ev (fun k => impl_WorstPins.l0 k l r t l (l.length : Int) i) (worstF l r t)
  | 0, i, h0, hd, hp => by
    have h1 : WC1 l := ⟨hl, fun j j0 j1 => hp j j0 (by omega)⟩
    have bad : ¬ WC2 l r t → Ev (fun k => impl_WorstPins.j1 k l r t true) (worstF l r t) := fun h => by
      have e : wcodeF l r t = 2 := by unfold wcodeF; rw [tt_pos h1, tt_neg h, if_pos rfl, if_neg (by decide)]
      unfold worstF
      rw [e, if_neg (by decide)]
      refine Ev_shift ?_
      simp only [impl_WorstPins.j1, if_true]
      exact Ev.now _
    refine Ev_shift ?_
    simp only [impl_WorstPins.l0, if_neg (show ¬ i < (l.length : Int) by omega)]
    by_cases c : (r.length : Int) = (l.length : Int)
    · simp only [if_pos c]
      have hw : Ev (fun k => impl_allWithin.f k r 0 1000000000) (tt (∀ j : Int, 0 ≤ j → j < (r.length : Int) → 0 ≤ rd r j ∧ rd r j ≤ 1000000000)) := by
        unfold impl_allWithin.f
        have h := ev_all (L := fun i k => impl_allWithin.l0 k 0 1000000000 r (r.length : Int) i) (P := fun i => 0 ≤ rd r i ∧ rd r i ≤ 1000000000) (n := (r.length : Int)) (fin := true) (fun i i0 i1 hp r' hr' => by
          refine Ev_shift ?_
          simp only [impl_allWithin.l0, if_pos i1, if_pos i0, within_eq, Option.bind_some, decide_eq_true hp, if_true, w64 (n := i + 1) (by omega)]
          exact hr') (fun i i0 i1 hp => by
          refine Ev_shift ?_
          simp only [impl_allWithin.l0, if_pos i1, if_pos i0, within_eq, Option.bind_some, decide_eq_false hp, Bool.false_eq_true, if_false]
          exact Ev.now _) (by
          refine Ev_shift ?_
          simp only [impl_allWithin.l0, if_neg (show ¬ (r.length : Int) < (r.length : Int) by omega)]
          exact Ev.now _) r.length 0 (by omega) (by omega)
        refine Ev_eq h ?_
        rw [Bool.true_and]
      refine Ev.bind hw ?_
      by_cases c2 : ∀ j : Int, 0 ≤ j → j < (r.length : Int) → 0 ≤ rd r j ∧ rd r j ≤ 1000000000
      · simp only [tt_pos c2, if_true, within_eq, Option.bind_some]
        by_cases c3 : 0 ≤ t ∧ t ≤ 100
        · have h2 : WC2 l r t := ⟨c2, c, c3⟩
          have e : wcodeF l r t = 0 := by unfold wcodeF; rw [tt_pos h1, tt_pos h2, if_pos rfl, if_pos rfl]
          simp only [decide_eq_true c3, Bool.not_true]
          unfold worstF
          rw [e, if_pos rfl]
          refine Ev_shift ?_
          simp only [impl_WorstPins.j1, Bool.false_eq_true, if_false]
          have := impl_worst_l1 h1 h2 l.length 0 [] (by omega) (by omega) (by simp)
          simpa using this
        · simp only [decide_eq_false c3, Bool.not_false]
          exact bad (fun h => c3 h.2.2)
      · simp only [tt_neg c2, Bool.false_eq_true, if_false]
        exact bad (fun h => c2 h.1)
    · simp only [if_neg c]
      exact bad (fun h => c h.2.1)
  | d + 1, i, h0, hd, hp => by
    refine Ev_shift ?_
    have hm := hx _ (rdC_mem l i h0 (by omega))
    have hc := impl_IsCircuit_ev (rd_T26 l i).f0 (rd_T26 l i).f1 (by omega)
    simp only [impl_WorstPins.l0, if_pos (show i < (l.length : Int) by omega), if_pos h0]
    refine Ev.bind hc ?_
    by_cases c : PCs l i
    · rw [tt_pos (show PCirc _ _ from c)]
      simp only [if_true, w64 (n := i + 1) (by omega)]
      exact impl_worst_l0 l hl hx r hr t d (i + 1) (by omega) (by omega) (fun j j0 j1 => by
        by_cases e : j = i
        · rw [e]; exact c
        · exact hp j j0 (by omega))
    · rw [tt_neg (show ¬ PCirc _ _ from c)]
      simp only [Bool.false_eq_true, if_false]
      have e : wcodeF l r t = 1 := by unfold wcodeF; rw [tt_neg (fun h : WC1 l => c (h.2 i h0 (by omega))), if_neg (by decide)]
      unfold worstF
      rw [e, if_neg (by decide)]
      exact Ev.now _
theorem wcodeF_ok {m0 : List S26} {m1 : List Int} {a2 : Int} (c : wcodeF m0 m1 a2 = 0) : WC1 m0 ∧ WC2 m0 m1 a2 := by
  unfold wcodeF at c
  by_cases h1 : WC1 m0
  · by_cases h2 : WC2 m0 m1 a2
    · exact ⟨h1, h2⟩
    · rw [tt_pos h1, tt_neg h2, if_pos rfl, if_neg (by decide)] at c
      omega
  · rw [tt_neg h1, if_neg (by decide)] at c
    omega
theorem worst_ev (m0 : List S26) (m1 : List Int) (a2 : Int) (hn0 : m0.length ≤ 1000000) (hx0 : ∀ x ∈ m0, x.f1.length ≤ 1000000) (hn1 : m1.length ≤ 1000000) : Ev (fun k => spec_WorstPins.f k m0 m1 a2) (worstF m0 m1 a2) ∧ Ev (fun k => impl_WorstPins.f k m0 m1 a2) (worstF m0 m1 a2) := by
  have hc := wp_code_l0 m0 hn0 hx0 m1 hn1 a2 m0.length 0 (by omega) (by omega) (fun j j0 j1 => by omega)
  have hs : Ev (fun k => spec_WorstPins.f k m0 m1 a2) (worstF m0 m1 a2) := by
    unfold spec_WorstPins.f spec_l14Code.f
    refine Ev.bind hc ?_
    by_cases c : wcodeF m0 m1 a2 = 0
    · have h12 := wcodeF_ok c
      simp only [if_pos c]
      unfold worstF
      rw [if_pos c]
      have := spec_worst_l0 h12.1 h12.2 m0.length 0 [] (by omega) (by omega) (by simp)
      simpa using this
    · simp only [if_neg c]
      unfold worstF
      rw [if_neg c]
      exact Ev.now _
  have hi : Ev (fun k => impl_WorstPins.f k m0 m1 a2) (worstF m0 m1 a2) := by
    unfold impl_WorstPins.f
    by_cases c : (m0.length : Int) > 32
    · have e : wcodeF m0 m1 a2 = 1 := by unfold wcodeF; rw [tt_neg (fun h : WC1 m0 => by have := h.1; omega), if_neg (by decide)]
      simp only [if_pos c]
      unfold worstF
      rw [e, if_neg (by decide)]
      exact Ev.now _
    · simp only [if_neg c]
      exact impl_worst_l0 m0 (by omega) hx0 m1 hn1 a2 m0.length 0 (by omega) (by omega) (fun j j0 j1 => by omega)
  exact ⟨hs, hi⟩
theorem worstF_len (m0 : List S26) (m1 : List Int) (a2 : Int) (hn0 : m0.length ≤ 1000000) : (worstF m0 m1 a2).1.length ≤ 10000000 := by
  have := idxF_length (oddF m0 m1 a2) m0.length 0
  unfold worstF
  split
  · show List.length (idxF _ _ _) ≤ _
    omega
  · simp
theorem agree_WorstPins (m0 : List S26) (m1 : List Int) (a2 : Int) (hn0 : m0.length ≤ 1000000) (hx0 : ∀ x ∈ m0, x.f1.length ≤ 1000000) (hn1 : m1.length ≤ 1000000) : ∃ (K : Nat) (r1 : List Int) (r2 : Int), r1.length ≤ 10000000 ∧ ∀ k, K ≤ k → spec_WorstPins.f k m0 m1 a2 = some (r1, r2) ∧ impl_WorstPins.f k m0 m1 a2 = some (r1, r2) := by
  obtain ⟨hs, hi⟩ := worst_ev m0 m1 a2 hn0 hx0 hn1
  have hlen := worstF_len m0 m1 a2 hn0
  obtain ⟨K, hk⟩ := Ev_both hs hi
  exact ⟨K, (worstF m0 m1 a2).1, (worstF m0 m1 a2).2, hlen, hk⟩
end Go.Proofs.Ytmahecjbejffoaa.Pure
