/- PureFnTables of the law FnTables: taken over, declaration by declaration, as far as the law leans on it (the words and the printed functions are the kit's own print). No condition but what each says. -/
import Derived.Test.YtedcdhnbceaaeaaZFnTablesav
import Derived.Test.YtedcdhnbceaaeaaZFnTablesax
import Derived.Test.YtedcdhnbceaaeaaZFnTablesay
import Derived.Test.YtedcdhnbceaaeaaZFnTablesaz
import Derived.Test.YtedcdhnbceaaeaaZFnTablesba
import Derived.Test.YtedcdhnbceaaeaaZFnTablesbb
import Derived.Test.YtedcdhnbceaaeaaZFnTablesbe
import Derived.Test.YtedcdhnbceaaeaaZFnTablesbf
import Derived.Test.YtedcdhnbceaaeaaZFnTablesbg
import Derived.Test.YtedcdhnbceaaeaaZFnTablesbh
import Derived.Test.YtedcdhnbceaaeaaZFnTablesbi
import Derived.Test.YtedcdhnbceaaeaaZFnTablesbc
namespace Go.Proofs.Ytedcdhnbceaaeaa.Pure
open Go.RowKit Go.Proofs.Ytedcdhnbceaaeaa.PFnTables Go.Proofs.YtedcdhnbceaaeaaW.PrintWords Go.Proofs.YtedcdhnbceaaeaaW.PrintLast Go.Proofs.Ytedcdhnbceaaeaa.Opening
set_option linter.unusedVariables false
set_option linter.unusedSimpArgs false
theorem w64 {n : Int} (h : -9223372036854775808 ≤ n ∧ n ≤ 9223372036854775807) : wrap64 n = n := by
 unfold wrap64
 omega
theorem dec_and {p q : Prop} [Decidable p] [Decidable q] : (if decide p = true then some (decide q) else some false) = some (decide (p ∧ q)) := by
 by_cases h : p <;> simp [h]
theorem l01In_eq (a b c : Int) : spec_l01In.f a b c = some (decide (b ≤ a ∧ a ≤ c)) := by
 unfold spec_l01In.f
 by_cases h : b ≤ a <;> simp [h]
theorem within_eq (a b c : Int) : impl_within.f a b c = some (decide (b ≤ a ∧ a ≤ c)) := by
 unfold impl_within.f
 by_cases h : b ≤ a <;> simp [h]
theorem drop_cons {α : Type} {l : List α} {i : Int} {a : α} {s : List α} (z : α) (h0 : 0 ≤ i) (h : l.drop i.toNat = a :: s) : i < l.length ∧ l.getD i.toNat z = a ∧ l.drop (i + 1).toNat = s := by
 have hlt : i.toNat < l.length := by
  rcases Nat.lt_or_ge i.toNat l.length with h1 | h1
  ·exact h1
  ·rw [List.drop_eq_nil_of_le h1] at h; cases h
 rw [List.drop_eq_getElem_cons hlt] at h
 injection h with h1 h2
 refine ⟨by omega, ?_, ?_⟩
 ·rw [List.getD_eq_getElem?_getD, List.getElem?_eq_getElem hlt]; exact h1
 ·rw [show (i + 1).toNat = i.toNat + 1 by omega]; exact h2
theorem drop_nil {α : Type} {l : List α} {i : Int} (h0 : 0 ≤ i) (h : l.drop i.toNat = []) : ¬ i < (l.length : Int) := by
 have := List.drop_eq_nil_iff.1 h
 omega
theorem Ev_shift {α : Type} {g : Nat → Option α} {r : α} (h : Ev (fun k => g (k + 1)) r) : Ev g r := Ev.step (fun _ => rfl) h
theorem Ev_eq {α : Type} {g : Nat → Option α} {r q : α} (h : Ev g r) (e : r = q) : Ev g q := e ▸ h
theorem Ev_some {α : Type} {r q : α} (e : r = q) : Ev (fun _ => some r) q := e ▸ Ev.now r
noncomputable def tt (p : Prop) : Bool := @decide p (Classical.propDecidable p)
theorem tt_pos {p : Prop} (h : p) : tt p = true := by unfold tt; exact @decide_eq_true p (Classical.propDecidable p) h
theorem tt_neg {p : Prop} (h : ¬ p) : tt p = false := by unfold tt; exact @decide_eq_false p (Classical.propDecidable p) h
theorem tt_dec (p : Prop) [i : Decidable p] : tt p = decide p := by
 by_cases h : p
 ·rw [tt_pos h, decide_eq_true h]
 ·rw [tt_neg h, decide_eq_false h]
theorem tt_iff {p q : Prop} (h : p ↔ q) : tt p = tt q := by rw [propext h]
theorem tt_and (p q : Prop) : (tt p && tt q) = tt (p ∧ q) := by
 by_cases h : p
 ·rw [tt_pos h, Bool.true_and]; exact tt_iff ⟨fun x => ⟨h, x⟩, fun x => x.2⟩
 ·rw [tt_neg h, Bool.false_and, tt_neg (fun x => h x.1)]
theorem tt_eq_true {p : Prop} : tt p = true ↔ p := by
 by_cases h : p
 ·exact ⟨fun _ => h, fun _ => tt_pos h⟩
 ·refine ⟨fun e => ?_, fun h' => absurd h' h⟩
  rw [tt_neg h] at e
  cases e
theorem ev_all {L : Int → Nat → Option Bool} {P : Int → Prop} {n : Int} {fin : Bool} (h1 : ∀ i, 0 ≤ i → i < n → P i → ∀ r, Ev (L (i + 1)) r → Ev (L i) r) (h2 : ∀ i, 0 ≤ i → i < n → ¬ P i → Ev (L i) false) (h3 : Ev (L n) fin) :
  ∀ (d : Nat) (i : Int), 0 ≤ i → i + d = n → Ev (L i) (fin && tt (∀ j, i ≤ j → j < n → P j))
 | 0, i, h0, hd => by
  have e : i = n := by omega
  rw [e, tt_pos (fun j h1 h2 => by omega), Bool.and_true]
  exact h3
 | d + 1, i, h0, hd => by
  by_cases hp : P i
  ·have := h1 i h0 (by omega) hp _ (ev_all h1 h2 h3 d (i + 1) (by omega) (by omega))
   refine Ev_eq this ?_
   congr 1
   exact tt_iff ⟨fun h j h1 h2 => by
    by_cases e : j = i
    ·rw [e]; exact hp
    ·exact h j (by omega) h2, fun h j h1 h2 => h j (by omega) h2⟩
  ·rw [tt_neg (fun h => hp (h i (Int.le_refl _) (by omega))), Bool.and_false]
   exact h2 i h0 (by omega) hp
/-- The numbers from i on, d of them looked at, that are told true. -/
def idxF (p : Int → Bool) : Nat → Int → List Int
 | 0, _ => []
 | d + 1, i => if p i = true then i :: idxF p d (i + 1) else idxF p d (i + 1)
theorem idxF_length (p : Int → Bool) : ∀ (d : Nat) (i : Int), (idxF p d i).length ≤ d
 | 0, _ => Nat.le_refl _
 | d + 1, i => by
  unfold idxF
  have := idxF_length p d (i + 1)
  split
  ·simp only [List.length_cons]
   omega
  ·omega
theorem ev_filter {ρ : Type} {L : Int → List Int → Nat → Option ρ} {p : Int → Bool} {n : Int} {fin : List Int → ρ}
  (h1 : ∀ (i : Int) (out : List Int), 0 ≤ i → i < n → (out.length : Int) ≤ i → p i = true → ∀ r, Ev (L (i + 1) (out ++ [i])) r → Ev (L i out) r)
  (h2 : ∀ (i : Int) (out : List Int), 0 ≤ i → i < n → (out.length : Int) ≤ i → p i = false → ∀ r, Ev (L (i + 1) out) r → Ev (L i out) r)
  (h3 : ∀ out : List Int, (out.length : Int) ≤ n → Ev (L n out) (fin out)) :
  ∀ (d : Nat) (i : Int) (out : List Int), 0 ≤ i → i + d = n → (out.length : Int) ≤ i → Ev (L i out) (fin (out ++ idxF p d i))
 | 0, i, out, h0, hd, hl => by
  have e : i = n := by omega
  subst e
  simp only [idxF, List.append_nil]
  exact h3 out hl
 | d + 1, i, out, h0, hd, hl => by
  unfold idxF
  cases hp : p i with
  | true =>
   refine h1 i out h0 (by omega) hl hp _ ?_
   have := ev_filter h1 h2 h3 d (i + 1) (out ++ [i]) (by omega) (by omega) (by simp; omega)
   simpa using this
  | false =>
   refine h2 i out h0 (by omega) hl hp _ ?_
   have := ev_filter h1 h2 h3 d (i + 1) out (by omega) (by omega) (by omega)
   simpa using this
theorem set_at_mid {α : Type} (p : List α) (b v : α) (s : List α) : (p ++ b :: s).set ((p.length : Int)).toNat v = p ++ v :: s := by
 rw [Int.toNat_natCast, List.set_append_right _ _ (Nat.le_refl _)]
 simp
theorem getD_at_mid {α : Type} (z : α) (p : List α) (b : α) (s : List α) : (p ++ b :: s).getD ((p.length : Int)).toNat z = b := by
 rw [Int.toNat_natCast, List.getD_eq_getElem?_getD, List.getElem?_append_right (Nat.le_refl _)]
 simp
theorem rd_mem {l : List Int} {i : Int} (h0 : 0 ≤ i) (h1 : i < l.length) : rd l i ∈ l := by
 have hlt : i.toNat < l.length := by omega
 have e : rd l i = l[i.toNat] := by
  show l.getD i.toNat _ = _
  rw [List.getD_eq_getElem?_getD, List.getElem?_eq_getElem hlt]
  rfl
 rw [e]
 exact List.getElem_mem hlt
theorem mem_rd {l : List Int} {x : Int} (h : x ∈ l) : ∃ i : Int, 0 ≤ i ∧ i < l.length ∧ rd l i = x := by
 obtain ⟨i, hi, rfl⟩ := List.mem_iff_getElem.1 h
 refine ⟨i, by omega, by omega, ?_⟩
 show l.getD _ _ = _
 rw [Int.toNat_natCast, List.getD_eq_getElem?_getD, List.getElem?_eq_getElem hi]
 rfl
theorem mx_eq (a b : Int) : mx a b = max a b := by
 unfold mx
 omega
/-- A source of drawn numbers. -/
def Src (c : List Int) (a s : Int) : Prop := (0 ≤ a ∧ a ≤ c.length ∧ c.length ≤ 4096) ∧ (0 ≤ s ∧ s < 2147483647) ∧ ∀ x ∈ c, 0 ≤ x ∧ x ≤ 255
theorem next_some {c : List Int} {a s : Int} (h : Src c a s) (n : Int) (hn : n ≤ 1000000000000) : ∃ v a' s', spec_l01Next.f c a s n = some (v, a', s') ∧ Src c a' s' ∧ 0 ≤ v ∧ (v < n ∨ v = 0) := by
 have ha := h.1
 have hs := h.2.1
 unfold spec_l01Next.f
 by_cases c1 : n ≤ 1
 ·rw [if_pos c1]
  exact ⟨0, a, s, rfl, h, by omega, .inr rfl⟩
 ·rw [if_neg c1]
  have w1 : wrap64 (wrap64 (s * 48271) + 29) = s * 48271 + 29 := by rw [w64 (n := s * 48271) (by omega), w64 (by omega)]
  obtain ⟨e, he⟩ : ∃ e, Int.tmod (s * 48271 + 29) 2147483647 = e := ⟨_, rfl⟩
  have e0 : 0 ≤ e := he ▸ Int.tmod_nonneg _ (by omega)
  have e1 : e < 2147483647 := he ▸ Int.tmod_lt_of_pos _ (by omega)
  obtain ⟨q, hq⟩ : ∃ q, Int.tdiv e 31 = q := ⟨_, rfl⟩
  have q0 : 0 ≤ q ∧ q ≤ e := by
   rw [← hq, Int.tdiv_eq_ediv_of_nonneg e0]
   omega
  have src : ∀ a' : Int, 0 ≤ a' → a' ≤ (c.length : Int) → Src c a' e := fun a' h0 h1 => ⟨⟨h0, h1, ha.2.2⟩, ⟨e0, e1⟩, h.2.2⟩
  have md : ∀ x, 0 ≤ x → 0 ≤ Int.tmod x n ∧ Int.tmod x n < n := fun x hx => ⟨Int.tmod_nonneg _ hx, Int.tmod_lt_of_pos _ (by omega)⟩
  by_cases c2 : a < c.length
  ·have hr := h.2.2 (rd c a) (rd_mem ha.1 c2)
   simp only [w1, he, hq, w64 (n := q) (by omega), if_pos c2, if_pos ha.1, w64 (n := a + 1) (by omega), w64 (n := a + 1 - 1) (by omega), show a + 1 - 1 = a by omega, w64 (n := a) (by omega), w64 (n := rd c a) (by omega), w64 (n := q + rd c a) (by omega), if_neg (show ¬ n = 0 by omega)]
   have m1 := md (rd c a) hr.1
   have m2 := md (q + rd c a) (by omega)
   by_cases c3 : n ≤ 256
   ·by_cases c4 : Int.tmod (a + 1) 2 = 0
    ·simp only [if_pos c3, if_pos c4]
     exact ⟨_, a + 1, e, rfl, src (a + 1) (by omega) (by omega), m1.1, .inl m1.2⟩
    ·simp only [if_pos c3, if_neg c4]
     exact ⟨_, a + 1, e, rfl, src (a + 1) (by omega) (by omega), m2.1, .inl m2.2⟩
   ·simp only [if_neg c3]
    exact ⟨_, a + 1, e, rfl, src (a + 1) (by omega) (by omega), m2.1, .inl m2.2⟩
  ·have m3 := md q q0.1
   simp only [w1, he, hq, w64 (n := q) (by omega), if_neg c2, if_neg (show ¬ n = 0 by omega)]
   exact ⟨_, a, e, rfl, src a ha.1 ha.2.1, m3.1, .inl m3.2⟩
theorem pick_some {c : List Int} {a s : Int} (h : Src c a s) (l : List Int) (h1 : 1 ≤ l.length) (h2 : l.length ≤ 1000) : ∃ v a' s', spec_l01Pick.f c a s l = some (v, a', s') ∧ Src c a' s' ∧ v ∈ l := by
 obtain ⟨v, a', s', e, hs, h0, hv⟩ := next_some h l.length (by omega)
 refine ⟨rd l v, a', s', ?_, hs, rd_mem h0 (by omega)⟩
 unfold spec_l01Pick.f
 rw [e]
 simp only [Option.bind_some]
 rw [if_pos h0, if_pos (by omega)]
theorem from_l0 (c : List Int) (hc : c.length ≤ 4096) (hb : ∀ x ∈ c, 0 ≤ x ∧ x ≤ 255) : ∀ (d : Nat) (i s : Int), 0 ≤ i → i + d = c.length → 0 ≤ s → s < 2147483647 → ∃ s', Ev (fun k => spec_l01From.l0 k c i c 0 s) (c, 0, s') ∧ Src c 0 s'
 | 0, i, s, h0, hd, s0, s1 => by
  refine ⟨s, Ev_shift ?_, ⟨by omega, by omega, hc⟩, ⟨s0, s1⟩, hb⟩
  simp only [spec_l01From.l0, if_neg (show ¬ i < (c.length : Int) by omega)]
  exact Ev.now _
 | d + 1, i, s, h0, hd, s0, s1 => by
  have hi : i < (c.length : Int) := by omega
  have hr := hb (rd c i) (rd_mem h0 hi)
  by_cases c2 : i < 64
  ·obtain ⟨s', e, hs⟩ := from_l0 c hc hb d (i + 1) (Int.tmod (s * 83 + rd c i) 2147483647) (by omega) (by omega) (Int.tmod_nonneg _ (by omega)) (Int.tmod_lt_of_pos _ (by omega))
   refine ⟨s', Ev_shift ?_, hs⟩
   simp only [spec_l01From.l0, if_pos hi, if_pos c2, if_pos h0, w64 (n := i + 1) (by omega), w64 (n := s * 83) (by omega), w64 (n := rd c i) (by omega), w64 (n := s * 83 + rd c i) (by omega)]
   exact e
  ·refine ⟨s, Ev_shift ?_, ⟨by omega, by omega, hc⟩, ⟨s0, s1⟩, hb⟩
   simp only [spec_l01From.l0, if_pos hi, if_neg c2]
   exact Ev.now _
theorem from_ev (c : List Int) (hc : c.length ≤ 4096) (hb : ∀ x ∈ c, 0 ≤ x ∧ x ≤ 255) : ∃ s, Ev (fun k => spec_l01From.f k c) (c, 0, s) ∧ Src c 0 s := by
 unfold spec_l01From.f
 exact from_l0 c hc hb c.length 0 61043 (by omega) (by omega) (by omega) (by omega)
theorem u8_rng {l : List Int} (h : ∀ x ∈ l, (Lit.int .u8 x).wf = true) : ∀ x ∈ l, 0 ≤ x ∧ x ≤ 255 := by
 intro x hx
 have := h x hx
 simp only [Lit.wf, Bool.and_eq_true, decide_eq_true_eq] at this
 have h1 : IntKind.min .u8 = 0 := by decide
 have h2 : IntKind.max .u8 = 255 := by decide
 rw [h1, h2] at this
 exact this
theorem likeInts_l0 (l : List Int) (hl : l.length ≤ 10000000) : ∀ (d : Nat) (i : Int), 0 ≤ i → i + d = l.length → Ev (fun k => laws_likeInts.l0 k l l i) true
 | 0, i, h0, hd => by
  refine Ev_shift ?_
  simp only [laws_likeInts.l0, if_neg (show ¬ i < (l.length : Int) by omega)]
  exact Ev.now _
 | d + 1, i, h0, hd => by
  refine Ev_shift ?_
  simp only [laws_likeInts.l0, if_pos (show i < (l.length : Int) by omega), if_pos h0, if_true, w64 (n := i + 1) (by omega)]
  exact likeInts_l0 l hl d (i + 1) (by omega) (by omega)
theorem likeInts_self (l : List Int) (hl : l.length ≤ 10000000) : Ev (fun k => laws_likeInts.f k l l) true := by
 unfold laws_likeInts.f
 simp only [if_true]
 exact likeInts_l0 l hl l.length 0 (by omega) (by omega)
theorem hasIntd_l0 (l : List Int) (hn : l.length ≤ 1000000) (x : Int) : ∀ (s : List Int) (i : Int), 0 ≤ i → l.drop i.toNat = s → Ev (fun k => laws_hasInt.l0 k l x i) (decide (x ∈ s))
 | [], i, h0, h => by
  refine Ev_shift ?_
  simp only [laws_hasInt.l0, if_neg (drop_nil h0 h)]
  exact Ev_some (by simp)
 | a :: s, i, h0, h => by
  refine Ev_shift ?_
  obtain ⟨h1, h2, h3⟩ := drop_cons 0 h0 h
  have h2' : rd l i = a := h2
  by_cases e : a = x
  ·simp only [laws_hasInt.l0, if_pos h1, if_pos h0, h2', if_pos e]
   exact Ev_some (by simp [e])
  ·simp only [laws_hasInt.l0, if_pos h1, if_pos h0, h2', if_neg e, w64 (n := i + 1) (by omega)]
   refine Ev_eq (hasIntd_l0 l hn x s (i + 1) (by omega) h3) ?_
   simp [Ne.symm e]
theorem hasInt_dec (l : List Int) (hn : l.length ≤ 1000000) (x : Int) : Ev (fun k => laws_hasInt.f k l x) (decide (x ∈ l)) := by
 unfold laws_hasInt.f
 exact hasIntd_l0 l hn x l 0 (by omega) rfl
theorem allWithin_l0 (l : List Int) (hn : l.length ≤ 140737488351232) (a b : Int) : ∀ (s : List Int) (i : Int), 0 ≤ i → l.drop i.toNat = s → Ev (fun k => impl_allWithin.l0 k a b l l.length i) (decide (∀ x ∈ s, a ≤ x ∧ x ≤ b))
 | [], i, h0, h => by
  refine Ev_shift ?_
  simp only [impl_allWithin.l0, if_neg (drop_nil h0 h)]
  exact Ev_some (by simp)
 | c :: s, i, h0, h => by
  refine Ev_shift ?_
  obtain ⟨h1, h2, h3⟩ := drop_cons 0 h0 h
  have h2' : rd l i = c := h2
  simp only [impl_allWithin.l0, if_pos h1, if_pos h0, h2', within_eq, Option.bind_some, decide_eq_true_eq, w64 (n := i + 1) (by omega)]
  by_cases hc : a ≤ c ∧ c ≤ b
  ·simp only [if_pos hc]
   refine Ev_eq (allWithin_l0 l hn a b s (i + 1) (by omega) h3) ?_
   exact decide_eq_decide.2 ⟨fun h x hx => by
    rcases List.mem_cons.1 hx with rfl | hx
    ·exact hc
    ·exact h x hx, fun h x hx => h x (by simp [hx])⟩
  ·simp only [if_neg hc]
   exact Ev_some (decide_eq_false (fun h => hc (h c (by simp)))).symm
theorem allWithin_ev (l : List Int) (hn : l.length ≤ 140737488351232) (a b : Int) : Ev (fun k => impl_allWithin.f k l a b) (decide (∀ x ∈ l, a ≤ x ∧ x ≤ b)) := by
 unfold impl_allWithin.f
 exact allWithin_l0 l hn a b l 0 (by omega) rfl
theorem idxF_mem (p : Int → Bool) : ∀ (d : Nat) (i x : Int), x ∈ idxF p d i ↔ i ≤ x ∧ x < i + d ∧ p x = true
 | 0, i, x => by simp [idxF]; omega
 | d + 1, i, x => by
  unfold idxF
  have ih := idxF_mem p d (i + 1) x
  by_cases hp : p i = true
  ·rw [if_pos hp, List.mem_cons, ih]
   constructor
   ·rintro (rfl | h)
    ·exact ⟨by omega, by omega, hp⟩
    ·exact ⟨by omega, by omega, h.2.2⟩
   ·rintro ⟨a, b, c⟩
    by_cases e : x = i
    ·exact .inl e
    ·exact .inr ⟨by omega, by omega, c⟩
  ·rw [if_neg hp, ih]
   constructor
   ·rintro ⟨a, b, c⟩
    exact ⟨by omega, by omega, c⟩
   ·rintro ⟨a, b, c⟩
    by_cases e : x = i
    ·rw [e] at c
     exact absurd c hp
    ·exact ⟨by omega, by omega, c⟩
theorem and24 (x : Int) : 0 ≤ Go.bits .and .u64 x 16777215 ∧ Go.bits .and .u64 x 16777215 ≤ 16777215 := by
 unfold Go.bits
 have h : ((BitVec.ofInt 64 x) &&& (BitVec.ofInt 64 16777215)).toNat ≤ 16777215 := by
  rw [BitVec.toNat_and]
  exact Nat.le_trans Nat.and_le_right (by decide)
 show 0 ≤ IntKind.u64.wrap (((BitVec.ofInt 64 x) &&& (BitVec.ofInt 64 16777215)).toNat : Int) ∧ IntKind.u64.wrap (((BitVec.ofInt 64 x) &&& (BitVec.ofInt 64 16777215)).toNat : Int) ≤ 16777215
 generalize ((BitVec.ofInt 64 x) &&& (BitVec.ofInt 64 16777215)).toNat = n at h ⊢
 have e : IntKind.u64.wrap (n : Int) = (n : Int) := by
  unfold IntKind.wrap
  simp [IntKind.bits, IntKind.signed]
  omega
 rw [e]
 omega
theorem roll_l0 (c d : List Int) (q : Int) (hc : c.length ≤ 4096) : ∀ (e : Nat) (i s : Int), 0 ≤ i → i + e = c.length → ∃ s', Ev (fun k => laws_roll.l0 k c i d q s) (d, q, s')
 | 0, i, s, h0, he => by
  refine ⟨s, Ev_shift ?_⟩
  simp only [laws_roll.l0, if_neg (show ¬ i < (c.length : Int) by omega)]
  exact Ev.now _
 | e + 1, i, s, h0, he => by
  obtain ⟨s', h⟩ := roll_l0 c d q hc e (i + 1) _ (by omega) (by omega)
  refine ⟨s', Ev_shift ?_⟩
  simp only [laws_roll.l0, if_pos (show i < (c.length : Int) by omega), if_pos h0, w64 (n := i + 1) (by omega)]
  exact h
theorem roll_ev (c : List Int) (hc : c.length ≤ 4096) (x : Int) : ∃ s, Ev (fun k => laws_roll.f k c x) (c, 0, s) := by
 unfold laws_roll.f
 exact roll_l0 c c 0 hc c.length 0 _ (by omega) (by omega)
def PPlace (x y : Int) : Prop := 0 ≤ x ∧ x ≤ 100000 ∧ 0 ≤ y ∧ y ≤ 100000
instance (x y : Int) : Decidable (PPlace x y) := by unfold PPlace; infer_instance
def PArea (k x y w d : Int) : Prop := 0 ≤ k ∧ k ≤ 3 ∧ 0 ≤ x ∧ x ≤ 100000 ∧ 0 ≤ y ∧ y ≤ 100000 ∧ 1 ≤ w ∧ w ≤ 100000 - x ∧ 1 ≤ d ∧ d ≤ 100000 - y
instance (k x y w d : Int) : Decidable (PArea k x y w d) := by unfold PArea; infer_instance
theorem spec_place_eq (x y : Int) : spec_l15Place.f x y = some (decide (PPlace x y)) := by
 unfold spec_l15Place.f PPlace
 simp only [l01In_eq, Option.bind_some]
 rw [dec_and]
 congr 2
 exact propext ⟨fun h => by omega, fun h => by omega⟩
theorem impl_place_eq (x y : Int) : impl_isPlace.f x y = some (decide (PPlace x y)) := by
 unfold impl_isPlace.f PPlace
 simp only [within_eq, Option.bind_some]
 rw [dec_and]
 congr 2
 exact propext ⟨fun h => by omega, fun h => by omega⟩
theorem impl_isKind_eq (k : Int) : impl_isKind.f k = some (decide (0 ≤ k ∧ k ≤ 3)) := by
 unfold impl_isKind.f
 rw [within_eq]; rfl
theorem spec_IsArea_eq (k x y w d : Int) : spec_IsArea.f k x y w d = some (decide (PArea k x y w d)) := by
 unfold spec_IsArea.f
 simp only [l01In_eq, spec_place_eq, Option.bind_some]
 by_cases h1 : 0 ≤ k ∧ k ≤ 3
 ·rw [if_pos (decide_eq_true h1)]
  by_cases h2 : PPlace x y
  ·rw [if_pos (decide_eq_true h2)]
   unfold PPlace at h2
   rw [w64 (by omega), w64 (by omega), dec_and]
   congr 2
   unfold PArea
   exact propext ⟨fun h => by omega, fun h => by omega⟩
  ·rw [if_neg (by simpa using h2), decide_eq_false (fun h => h2 (by unfold PArea at h; unfold PPlace; omega))]
 ·rw [if_neg (by simpa using h1), decide_eq_false (fun h => h1 (by unfold PArea at h; omega))]
theorem impl_IsArea_eq (k x y w d : Int) : impl_IsArea.f k x y w d = some (decide (PArea k x y w d)) := by
 unfold impl_IsArea.f
 simp only [within_eq, impl_isKind_eq, impl_place_eq, Option.bind_some]
 by_cases h1 : 0 ≤ k ∧ k ≤ 3
 ·rw [if_pos (decide_eq_true h1)]
  by_cases h2 : PPlace x y
  ·rw [if_pos (decide_eq_true h2)]
   unfold PPlace at h2
   rw [w64 (by omega), w64 (by omega), dec_and]
   congr 2
   unfold PArea
   exact propext ⟨fun h => by omega, fun h => by omega⟩
  ·rw [if_neg (by simpa using h2), decide_eq_false (fun h => h2 (by unfold PArea at h; unfold PPlace; omega))]
 ·rw [if_neg (by simpa using h1), decide_eq_false (fun h => h1 (by unfold PArea at h; omega))]
def PSite (l : List S83) : Prop := l.length ≤ 10 ∧ ∀ a ∈ l, PArea a.f0 a.f1 a.f2 a.f3 a.f4
instance (l : List S83) : Decidable (PSite l) := by unfold PSite; infer_instance
theorem spec_IsSite_l0 (l : List S83) (hn : l.length ≤ 140737488351232) : ∀ (s : List S83) (i : Int) (k : Nat), 0 ≤ i → l.drop i.toNat = s → s.length < k → spec_IsSite.l0 k l i = some (decide (l.length ≤ 10 ∧ ∀ a ∈ s, PArea a.f0 a.f1 a.f2 a.f3 a.f4))
 | [], i, k, h0, h, hk => by
  obtain ⟨k, rfl⟩ : ∃ m, k = m + 1 := ⟨k - 1, by omega⟩
  simp only [spec_IsSite.l0]
  rw [if_neg (drop_nil h0 h)]
  congr 2
  simp
  omega
 | a :: s, i, k, h0, h, hk => by
  obtain ⟨k, rfl⟩ : ∃ m, k = m + 1 := ⟨k - 1, by simp at hk; omega⟩
  obtain ⟨h1, h2, h3⟩ := drop_cons z83 h0 h
  have h2' : rd_T83 l i = a := h2
  simp only [spec_IsSite.l0]
  rw [if_pos h1, if_pos h0, h2', spec_IsArea_eq, Option.bind_some]
  by_cases hp : PArea a.f0 a.f1 a.f2 a.f3 a.f4
  ·rw [if_pos (decide_eq_true hp), w64 (by omega), spec_IsSite_l0 l hn s (i + 1) k (by omega) h3 (by simpa using hk)]
   congr 2
   simp [hp]
  ·rw [if_neg (by simpa using hp)]
   congr 1
   simp [hp]
theorem spec_IsSite_f (l : List S83) (hn : l.length ≤ 140737488351232) (k : Nat) (hk : l.length < k) : spec_IsSite.f k l = some (decide (PSite l)) := by
 unfold spec_IsSite.f PSite
 exact spec_IsSite_l0 l hn l 0 k (by omega) rfl hk
theorem impl_IsSite_l0 (l : List S83) (hn : l.length ≤ 140737488351232) : ∀ (s : List S83) (i : Int) (k : Nat), 0 ≤ i → l.drop i.toNat = s → s.length < k → impl_IsSite.l0 k l l.length i = some (decide (∀ a ∈ s, PArea a.f0 a.f1 a.f2 a.f3 a.f4))
 | [], i, k, h0, h, hk => by
  obtain ⟨k, rfl⟩ : ∃ m, k = m + 1 := ⟨k - 1, by omega⟩
  simp only [impl_IsSite.l0]
  rw [if_neg (drop_nil h0 h)]
  simp
 | a :: s, i, k, h0, h, hk => by
  obtain ⟨k, rfl⟩ : ∃ m, k = m + 1 := ⟨k - 1, by simp at hk; omega⟩
  obtain ⟨h1, h2, h3⟩ := drop_cons z83 h0 h
  have h2' : rd_T83 l i = a := h2
  simp only [impl_IsSite.l0]
  rw [if_pos h1, if_pos h0, if_pos h1, h2', impl_IsArea_eq, Option.bind_some]
  by_cases hp : PArea a.f0 a.f1 a.f2 a.f3 a.f4
  ·rw [if_pos (decide_eq_true hp), w64 (by omega), impl_IsSite_l0 l hn s (i + 1) k (by omega) h3 (by simpa using hk)]
   congr 2
   simp [hp]
  ·rw [if_neg (by simpa using hp)]
   congr 1
   simp [hp]
theorem impl_IsSite_f (l : List S83) (hn : l.length ≤ 140737488351232) (k : Nat) (hk : l.length < k) : impl_IsSite.f k l = some (decide (PSite l)) := by
 unfold impl_IsSite.f
 rw [impl_IsSite_l0 l hn l 0 k (by omega) rfl hk]
 by_cases h : (l.length : Int) > 10
 ·rw [if_pos h, decide_eq_false (p := PSite l) (fun hh => by have := hh.1; omega)]
 ·rw [if_neg h]
  congr 1
  exact decide_eq_decide.2 ⟨fun hh => (⟨by omega, hh⟩ : PSite l), fun hh => hh.2⟩
/-- How far a coordinate is from a range. -/
def PAway (x a w : Int) : Int := max (max 0 (a - x)) (x - a - w)
def PSq (X Y W D x y : Int) : Int := PAway x X W * PAway x X W + PAway y Y D * PAway y Y D
theorem PAway_bd {x a w : Int} (h : 0 ≤ x ∧ x ≤ 100000) (ha : 0 ≤ a ∧ a ≤ 100000) (hw : 1 ≤ w ∧ w ≤ 100000 - a) : 0 ≤ PAway x a w ∧ PAway x a w ≤ 100000 := by
 unfold PAway
 omega
theorem sq_bd {d : Int} (h : 0 ≤ d ∧ d ≤ 100000) : 0 ≤ d * d ∧ d * d ≤ 10000000000 := by
 have h1 : d * d ≤ 100000 * d := Int.mul_le_mul_of_nonneg_right h.2 h.1
 have h2 : 0 ≤ d * d := Int.mul_nonneg h.1 h.1
 omega
theorem spec_away_eq {x a w : Int} (h : 0 ≤ x ∧ x ≤ 100000) (ha : 0 ≤ a ∧ a ≤ 100000) (hw : 1 ≤ w ∧ w ≤ 100000 - a) : spec_l15Away.f x a (wrap64 (a + w)) = some (PAway x a w) := by
 unfold spec_l15Away.f PAway
 rw [w64 (n := a + w) (by omega), w64 (n := a - x) (by omega), w64 (n := x - (a + w)) (by omega), mx_eq, mx_eq]
 congr 1
 omega
theorem spec_Square_eq {K X Y W D x y : Int} (hp : PPlace x y) (ha : PPlace X Y) (hw : 1 ≤ W ∧ W ≤ 100000 - X) (hd : 1 ≤ D ∧ D ≤ 100000 - Y) : spec_l15Square.f K X Y W D x y = some (PSq X Y W D x y) := by
 unfold PPlace at *
 unfold spec_l15Square.f PSq
 rw [spec_away_eq (by omega) (by omega) hw, Option.bind_some, spec_away_eq (by omega) (by omega) hd, Option.bind_some]
 have h1 := sq_bd (PAway_bd (x := x) (a := X) (w := W) (by omega) (by omega) hw)
 have h2 := sq_bd (PAway_bd (x := y) (a := Y) (w := D) (by omega) (by omega) hd)
 rw [w64 (n := PAway x X W * PAway x X W) (by omega), w64 (n := PAway y Y D * PAway y Y D) (by omega), w64 (by omega)]
theorem impl_square_eq {K X Y W D x y : Int} (hp : PPlace x y) (ha : PPlace X Y) (hw : 1 ≤ W ∧ W ≤ 100000 - X) (hd : 1 ≤ D ∧ D ≤ 100000 - Y) : impl_squareTo.f K X Y W D x y = some (PSq X Y W D x y) := by
 unfold PPlace at *
 unfold impl_squareTo.f
 rw [w64 (n := X - x) (by omega), w64 (n := x - X) (by omega), w64 (n := x - X - W) (by omega), w64 (n := Y - y) (by omega), w64 (n := y - Y) (by omega), w64 (n := y - Y - D) (by omega)]
 simp only [mx_eq]
 have h1 := sq_bd (PAway_bd (x := x) (a := X) (w := W) (by omega) (by omega) hw)
 have h2 := sq_bd (PAway_bd (x := y) (a := Y) (w := D) (by omega) (by omega) hd)
 show some (wrap64 (wrap64 (PAway x X W * PAway x X W) + wrap64 (PAway y Y D * PAway y Y D))) = some (PSq X Y W D x y)
 rw [w64 (n := PAway x X W * PAway x X W) (by omega), w64 (n := PAway y Y D * PAway y Y D) (by omega), w64 (by omega)]
 rfl
theorem spec_l15Code_f (l : List S83) (hn : l.length ≤ 140737488351232) (k : Nat) (hk : l.length < k) (kind x y : Int) : spec_l15Code.f k l kind x y = some (if PSite l then (if PPlace x y ∧ 0 ≤ kind ∧ kind ≤ 3 then 0 else 2) else 1) := by
 unfold spec_l15Code.f
 rw [spec_IsSite_f l hn k hk, Option.bind_some]
 by_cases h : PSite l
 ·rw [if_pos (decide_eq_true h), if_pos h, spec_place_eq, Option.bind_some]
  by_cases h2 : PPlace x y
  ·rw [if_pos (decide_eq_true h2), l01In_eq, Option.bind_some]
   by_cases h3 : 0 ≤ kind ∧ kind ≤ 3
   ·rw [if_pos (decide_eq_true h3), if_pos ⟨h2, h3⟩]
   ·rw [if_neg (by simpa using h3), if_neg (fun h => h3 h.2)]
  ·rw [if_neg (by simpa using h2), if_neg (fun h => h2 h.1)]
 ·rw [if_neg (by simpa using h), if_neg h]
theorem impl_IsSite_ev (l : List S83) (hn : l.length ≤ 140737488351232) : Ev (fun k => impl_IsSite.f k l) (decide (PSite l)) := ⟨l.length + 1, fun k hk => impl_IsSite_f l hn k (by omega)⟩
theorem area_at {l : List S83} (h : PSite l) {i : Int} (h0 : 0 ≤ i) (h1 : i < l.length) : PArea (rd_T83 l i).f0 (rd_T83 l i).f1 (rd_T83 l i).f2 (rd_T83 l i).f3 (rd_T83 l i).f4 := by
 have hlt : i.toNat < l.length := by omega
 have e : rd_T83 l i = l[i.toNat] := by
  show l.getD i.toNat _ = _
  rw [List.getD_eq_getElem?_getD, List.getElem?_eq_getElem hlt]
  rfl
 rw [e]
 exact h.2 _ (List.getElem_mem hlt)
/-- The square distance of a place from the area with an index. -/
def sqAt (l : List S83) (x y i : Int) : Int := PSq (rd_T83 l i).f1 (rd_T83 l i).f2 (rd_T83 l i).f3 (rd_T83 l i).f4 x y
theorem spec_sqAt {l : List S83} (h : PSite l) {x y : Int} (hp : PPlace x y) {i : Int} (h0 : 0 ≤ i) (h1 : i < l.length) : spec_l15Square.f (rd_T83 l i).f0 (rd_T83 l i).f1 (rd_T83 l i).f2 (rd_T83 l i).f3 (rd_T83 l i).f4 x y = some (sqAt l x y i) := by
 have ha := area_at h h0 h1
 unfold PArea at ha
 exact spec_Square_eq hp (by unfold PPlace; omega) (by omega) (by omega)
theorem impl_sqAt {l : List S83} (h : PSite l) {x y : Int} (hp : PPlace x y) {i : Int} (h0 : 0 ≤ i) (h1 : i < l.length) : impl_squareTo.f (rd_T83 l i).f0 (rd_T83 l i).f1 (rd_T83 l i).f2 (rd_T83 l i).f3 (rd_T83 l i).f4 x y = some (sqAt l x y i) := by
 have ha := area_at h h0 h1
 unfold PArea at ha
 exact impl_square_eq hp (by unfold PPlace; omega) (by omega) (by omega)
theorem spec_l15Code_ev (l : List S83) (hn : l.length ≤ 140737488351232) (kind x y : Int) : Ev (fun k => spec_l15Code.f k l kind x y) (if PSite l then (if PPlace x y ∧ 0 ≤ kind ∧ kind ≤ 3 then 0 else 2) else 1) := ⟨l.length + 1, fun k hk => spec_l15Code_f l hn k (by omega) kind x y⟩
theorem good15_some {c : List Int} {a s : Int} (h : Src c a s) : ∃ k x y w d a' s', spec_l15Good.f c a s = some (k, x, y, w, d, a', s') ∧ Src c a' s' := by
 obtain ⟨v1, a1, s1, e1, h1, _, _⟩ := next_some h 4 (by omega)
 obtain ⟨v2, a2, s2, e2, h2, _, _⟩ := next_some h1 2000 (by omega)
 obtain ⟨v3, a3, s3, e3, h3, _, _⟩ := next_some h2 2000 (by omega)
 obtain ⟨v4, a4, s4, e4, h4, _, _⟩ := next_some h3 400 (by omega)
 obtain ⟨v5, a5, s5, e5, h5, _, _⟩ := next_some h4 400 (by omega)
 refine ⟨v1, v2, v3, wrap64 (1 + v4), wrap64 (1 + v5), a5, s5, ?_, h5⟩
 unfold spec_l15Good.f
 simp only [e1, e2, e3, e4, e5, Option.bind_some]
theorem draw15_some {c : List Int} {a s : Int} (h : Src c a s) : ∃ k x y w d a' s', spec_l15Draw.f c a s = some (k, x, y, w, d, a', s') ∧ Src c a' s' := by
 obtain ⟨k, x, y, w, d, a1, s1, e1, h1⟩ := good15_some h
 obtain ⟨v, a2, s2, e2, h2, _, _⟩ := next_some h1 60 (by omega)
 unfold spec_l15Draw.f
 simp only [e1, e2, Option.bind_some]
 by_cases c0 : v = 0
 ·obtain ⟨p, a3, s3, e3, h3, _⟩ := pick_some h2 [(-1), 4] (by simp) (by simp)
  simp only [if_pos c0, e3, Option.bind_some]
  exact ⟨_, _, _, _, _, a3, s3, rfl, h3⟩
 ·by_cases c1 : v = 1
  ·obtain ⟨p, a3, s3, e3, h3, _⟩ := pick_some h2 [0, wrap64 (100000 - x), wrap64 ((wrap64 (100000 - x)) + 1)] (by simp) (by simp)
   simp only [if_neg c0, if_pos c1, e3, Option.bind_some]
   exact ⟨_, _, _, _, _, a3, s3, rfl, h3⟩
  ·by_cases c2 : v = 2
   ·obtain ⟨p, a3, s3, e3, h3, _⟩ := pick_some h2 [(-1), 0, 100000] (by simp) (by simp)
    simp only [if_neg c0, if_neg c1, if_pos c2, e3, Option.bind_some]
    exact ⟨_, _, _, _, _, a3, s3, rfl, h3⟩
   ·simp only [if_neg c0, if_neg c1, if_neg c2]
    exact ⟨_, _, _, _, _, a2, s2, rfl, h2⟩
theorem fill15_l1 (c : List Int) : ∀ (d : Nat) (out : List S83) (a s : Int), Src c a s → 12 ≤ out.length + d → out.length ≤ 12 → ∃ l a' s', Ev (fun k => spec_l15Site.l1 k out c a s) (l, a', s') ∧ Src c a' s' ∧ l.length ≤ 30
 | d, out, a, s, h, hd, ho => by
  obtain ⟨v, a1, s1, e1, h1, v0, v1⟩ := next_some h 2 (by omega)
  by_cases c1 : (out.length : Int) < 10 + v
  ·cases d with
   | zero => omega
   | succ d =>
    obtain ⟨k, x, y, w, dd, a2, s2, e2, h2⟩ := good15_some h1
    obtain ⟨l, a', s', e, hs, hl⟩ := fill15_l1 c d (out ++ [(⟨k, x, y, w, dd⟩ : S83)]) a2 s2 h2 (by simp; omega) (by simp; omega)
    refine ⟨l, a', s', Ev_shift ?_, hs, hl⟩
    simp only [spec_l15Site.l1, e1, e2, Option.bind_some, w64 (n := 10 + v) (by omega), if_pos c1, if_pos (show out.length < 3518437208883 by omega)]
    exact e
  ·refine ⟨out, a1, s1, Ev_shift ?_, h1, by omega⟩
   simp only [spec_l15Site.l1, e1, Option.bind_some, w64 (n := 10 + v) (by omega), if_neg c1]
   exact Ev.now _
theorem site15_l0 (c : List Int) : ∀ (d : Nat) (out : List S83) (a s : Int), Src c a s → out.length + d ≤ 6 → ∃ l a' s', Ev (fun k => spec_l15Site.l0 k out d c a s) (l, a', s') ∧ Src c a' s' ∧ l.length ≤ 30
 | 0, out, a, s, h, hd => by
  obtain ⟨v, a1, s1, e1, h1, v0, v1⟩ := next_some h 30 (by omega)
  by_cases c0 : v = 0
  ·obtain ⟨l, a', s', e, hs, hl⟩ := fill15_l1 c 12 out a1 s1 h1 (by omega) (by omega)
   refine ⟨l, a', s', Ev_shift ?_, hs, hl⟩
   simp only [spec_l15Site.l0, if_neg (show ¬ ((0 : Nat) : Int) > 0 by decide), e1, Option.bind_some, if_pos c0]
   exact e
  ·refine ⟨out, a1, s1, Ev_shift ?_, h1, by omega⟩
   simp only [spec_l15Site.l0, if_neg (show ¬ ((0 : Nat) : Int) > 0 by decide), e1, Option.bind_some, if_neg c0]
   exact Ev.now _
 | d + 1, out, a, s, h, hd => by
  obtain ⟨k, x, y, w, dd, a2, s2, e2, h2⟩ := draw15_some h
  obtain ⟨l, a', s', e, hs, hl⟩ := site15_l0 c d (out ++ [(⟨k, x, y, w, dd⟩ : S83)]) a2 s2 h2 (by simp; omega)
  refine ⟨l, a', s', Ev_shift ?_, hs, hl⟩
  simp only [spec_l15Site.l0, if_pos (show ((d + 1 : Nat) : Int) > 0 by omega), e2, Option.bind_some, if_pos (show out.length < 3518437208883 by omega), w64 (n := ((d + 1 : Nat) : Int) - 1) (by omega), show ((d + 1 : Nat) : Int) - 1 = (d : Int) by omega, w64 (n := (d : Int)) (by omega)]
  exact e
theorem site15_ev {c : List Int} {a s : Int} (h : Src c a s) : ∃ l a' s', Ev (fun k => spec_l15Site.f k c a s) (l, a', s') ∧ Src c a' s' ∧ l.length ≤ 30 := by
 obtain ⟨v, a1, s1, e1, h1, v0, v1⟩ := next_some h 6 (by omega)
 obtain ⟨l, a', s', e, hs, hl⟩ := site15_l0 c v.toNat [] a1 s1 h1 (by simp; omega)
 rw [show ((v.toNat : Nat) : Int) = v by omega] at e
 refine ⟨l, a', s', ?_, hs, hl⟩
 unfold spec_l15Site.f
 simp only [e1, Option.bind_some]
 exact e
theorem at15_some {c : List Int} {a s : Int} (h : Src c a s) : ∃ x y a' s', spec_l15At.f c a s = some (x, y, a', s') ∧ Src c a' s' := by
 obtain ⟨v, a1, s1, e1, h1, v0, v1⟩ := next_some h 24 (by omega)
 unfold spec_l15At.f
 simp only [e1, Option.bind_some]
 by_cases c0 : v = 0
 ·obtain ⟨p, a2, s2, e2, h2, _⟩ := pick_some h1 [(-1), 0, 100000, 100001] (by simp) (by simp)
  obtain ⟨q, a3, s3, e3, h3, _, _⟩ := next_some h2 2000 (by omega)
  simp only [if_pos c0, e2, e3, Option.bind_some]
  exact ⟨_, _, a3, s3, rfl, h3⟩
 ·obtain ⟨p, a2, s2, e2, h2, _, _⟩ := next_some h1 2400 (by omega)
  obtain ⟨q, a3, s3, e3, h3, _, _⟩ := next_some h2 2400 (by omega)
  simp only [if_neg c0, e2, e3, Option.bind_some]
  exact ⟨_, _, a3, s3, rfl, h3⟩
/-- A demand is right at its place. -/
def PT (l : List S81) (i : Int) : Prop := (0 ≤ (rd_T81 l i).f0 ∧ (rd_T81 l i).f0 ≤ 3) ∧ (20 ≤ (rd_T81 l i).f1 ∧ (rd_T81 l i).f1 ≤ 300) ∧ (0 ≤ (rd_T81 l i).f2 ∧ (rd_T81 l i).f2 ≤ 10000) ∧
 (0 < i → (rd_T81 l (i - 1)).f0 < (rd_T81 l i).f0 ∨ (rd_T81 l (i - 1)).f0 = (rd_T81 l i).f0 ∧ (rd_T81 l (i - 1)).f1 < (rd_T81 l i).f1 ∧ (rd_T81 l (i - 1)).f2 ≤ (rd_T81 l i).f2)
def PTab (l : List S81) : Prop := l.length ≤ 12 ∧ ∀ j : Int, 0 ≤ j → j < l.length → PT l j
theorem before_eq (a b c d e f : Int) : spec_l16Before.f a b c d e f = some (decide (a < d ∨ a = d ∧ b < e)) := by
 unfold spec_l16Before.f
 by_cases h : a < d
 ·simp [h]
 ·by_cases h2 : a = d <;> simp [h, h2]
theorem spec_IsTable_j1 (l : List S81) (hn : l.length ≤ 140737488351232) (i : Int) (h0 : 0 ≤ i) (h1 : i < l.length)
  (hf : (0 ≤ (rd_T81 l i).f0 ∧ (rd_T81 l i).f0 ≤ 3) ∧ (20 ≤ (rd_T81 l i).f1 ∧ (rd_T81 l i).f1 ≤ 300) ∧ (0 ≤ (rd_T81 l i).f2 ∧ (rd_T81 l i).f2 ≤ 10000)) :
  (PT l i → ∀ r, Ev (fun k => spec_IsTable.l0 k l (i + 1)) r → Ev (fun k => spec_IsTable.j1 k l i false (rd_T81 l i).f0 (rd_T81 l i).f1 (rd_T81 l i).f2) r) ∧
  (¬ PT l i → Ev (fun k => spec_IsTable.j1 k l i false (rd_T81 l i).f0 (rd_T81 l i).f1 (rd_T81 l i).f2) false) := by
 by_cases hi : i > 0
 ·have w1 : wrap64 (i - 1) = i - 1 := w64 (by omega)
  have w2 : wrap64 (i + 1) = i + 1 := w64 (by omega)
  refine ⟨fun hp r hr => ?_, fun hp => ?_⟩
  ·refine Ev_shift ?_
   simp only [spec_IsTable.j1, Bool.false_eq_true, if_false, if_pos hi, w1, w2, if_pos (show 0 ≤ i - 1 by omega), if_pos (show i - 1 < (l.length : Int) by omega), before_eq, Option.bind_some, decide_eq_true_eq]
   rcases hp.2.2.2 hi with h | ⟨h, h2, h3⟩
   ·simp only [if_pos (show (rd_T81 l (i - 1)).f0 < (rd_T81 l i).f0 ∨ (rd_T81 l (i - 1)).f0 = (rd_T81 l i).f0 ∧ (rd_T81 l (i - 1)).f1 < (rd_T81 l i).f1 from .inl h), if_neg (show ¬ (rd_T81 l (i - 1)).f0 = (rd_T81 l i).f0 by omega)]
    exact hr
   ·simp only [if_pos (show (rd_T81 l (i - 1)).f0 < (rd_T81 l i).f0 ∨ (rd_T81 l (i - 1)).f0 = (rd_T81 l i).f0 ∧ (rd_T81 l (i - 1)).f1 < (rd_T81 l i).f1 from .inr ⟨h, h2⟩), if_pos h, if_neg (show ¬ (rd_T81 l (i - 1)).f2 > (rd_T81 l i).f2 by omega)]
    exact hr
  ·refine Ev_shift ?_
   simp only [spec_IsTable.j1, Bool.false_eq_true, if_false, if_pos hi, w1, w2, if_pos (show 0 ≤ i - 1 by omega), if_pos (show i - 1 < (l.length : Int) by omega), before_eq, Option.bind_some, decide_eq_true_eq]
   by_cases hb : (rd_T81 l (i - 1)).f0 < (rd_T81 l i).f0 ∨ (rd_T81 l (i - 1)).f0 = (rd_T81 l i).f0 ∧ (rd_T81 l (i - 1)).f1 < (rd_T81 l i).f1
   ·have h2 : (rd_T81 l (i - 1)).f0 = (rd_T81 l i).f0 := by
     rcases hb with h | h
     ·exact absurd ⟨hf.1, hf.2.1, hf.2.2, fun _ => .inl h⟩ hp
     ·exact h.1
    have h3 : (rd_T81 l (i - 1)).f2 > (rd_T81 l i).f2 := by
     rcases hb with h | h
     ·omega
     ·by_cases h4 : (rd_T81 l (i - 1)).f2 ≤ (rd_T81 l i).f2
      ·exact absurd ⟨hf.1, hf.2.1, hf.2.2, fun _ => .inr ⟨h.1, h.2, h4⟩⟩ hp
      ·omega
    simp only [if_pos hb, if_pos h2, if_pos h3]
    exact Ev.now _
   ·simp only [if_neg hb]
    exact Ev.now _
 ·refine ⟨fun hp r hr => ?_, fun hp => absurd ⟨hf.1, hf.2.1, hf.2.2, fun h => absurd h hi⟩ hp⟩
  refine Ev_shift ?_
  simp only [spec_IsTable.j1, Bool.false_eq_true, if_false, if_neg hi, w64 (n := i + 1) (by omega)]
  exact hr
theorem spec_IsTable_ev (l : List S81) (hn : l.length ≤ 140737488351232) : Ev (fun k => spec_IsTable.f k l) (tt (PTab l)) := by
 unfold spec_IsTable.f
 have bad : ∀ i a b c, Ev (fun k => spec_IsTable.j1 k l i true a b c) false := fun i a b c => by
  refine Ev_shift ?_
  simp only [spec_IsTable.j1, if_true]
  exact Ev.now _
 have := ev_all (L := fun i k => spec_IsTable.l0 k l i) (P := PT l) (n := l.length) (fin := decide (l.length ≤ 12)) (fun i h0 h1 hp r hr => ?_) (fun i h0 h1 hp => ?_) ?_ l.length 0 (by omega) (by omega)
 ·refine Ev_eq this ?_
  rw [← tt_dec, tt_and]
  exact tt_iff ⟨fun h => ⟨h.1, fun j h0 h1 => h.2 j h0 h1⟩, fun h => ⟨h.1, fun j h0 h1 => h.2 j h0 h1⟩⟩
 ·refine Ev_shift ?_
  simp only [spec_IsTable.l0, if_pos h1, if_pos h0, l01In_eq, Option.bind_some, decide_eq_true_eq, if_pos hp.1, if_pos hp.2.1, decide_eq_true hp.2.2.1, Bool.not_true]
  exact (spec_IsTable_j1 l hn i h0 h1 ⟨hp.1, hp.2.1, hp.2.2.1⟩).1 hp r hr
 ·refine Ev_shift ?_
  simp only [spec_IsTable.l0, if_pos h1, if_pos h0, l01In_eq, Option.bind_some, decide_eq_true_eq]
  by_cases c1 : 0 ≤ (rd_T81 l i).f0 ∧ (rd_T81 l i).f0 ≤ 3
  ·by_cases c2 : 20 ≤ (rd_T81 l i).f1 ∧ (rd_T81 l i).f1 ≤ 300
   ·by_cases c3 : 0 ≤ (rd_T81 l i).f2 ∧ (rd_T81 l i).f2 ≤ 10000
    ·simp only [if_pos c1, if_pos c2, decide_eq_true c3, Bool.not_true]
     exact (spec_IsTable_j1 l hn i h0 h1 ⟨c1, c2, c3⟩).2 hp
    ·simp only [if_pos c1, if_pos c2, decide_eq_false c3, Bool.not_false]
     exact bad _ _ _ _
   ·simp only [if_pos c1, if_neg c2]
    exact bad _ _ _ _
  ·simp only [if_neg c1]
   exact bad _ _ _ _
 ·refine Ev_shift ?_
  simp only [spec_IsTable.l0, if_neg (show ¬ (l.length : Int) < l.length by omega)]
  exact Ev_some (by congr 1; exact propext ⟨fun h => by omega, fun h => by omega⟩)
theorem impl_IsTable_j1 (l : List S81) (hn : l.length ≤ 140737488351232) (i : Int) (h0 : 0 ≤ i) (h1 : i < l.length)
  (hf : (0 ≤ (rd_T81 l i).f0 ∧ (rd_T81 l i).f0 ≤ 3) ∧ (20 ≤ (rd_T81 l i).f1 ∧ (rd_T81 l i).f1 ≤ 300) ∧ (0 ≤ (rd_T81 l i).f2 ∧ (rd_T81 l i).f2 ≤ 10000)) :
  (PT l i → ∀ r, Ev (fun k => impl_IsTable.l0 k l l l.length (i + 1)) r → Ev (fun k => impl_IsTable.j1 k l i l l.length i false (rd_T81 l i).f0 (rd_T81 l i).f1 (rd_T81 l i).f2) r) ∧
  (¬ PT l i → Ev (fun k => impl_IsTable.j1 k l i l l.length i false (rd_T81 l i).f0 (rd_T81 l i).f1 (rd_T81 l i).f2) false) := by
 by_cases hi : i > 0
 ·have w1 : wrap64 (i - 1) = i - 1 := w64 (by omega)
  have w2 : wrap64 (i + 1) = i + 1 := w64 (by omega)
  refine ⟨fun hp r hr => ?_, fun hp => ?_⟩
  ·refine Ev_shift ?_
   simp only [impl_IsTable.j1, Bool.false_eq_true, if_false, if_neg (show ¬ i = 0 by omega), w1, w2, if_pos (show 0 ≤ i - 1 by omega), if_pos (show i - 1 < (l.length : Int) by omega)]
   rcases hp.2.2.2 hi with h | ⟨h, h2, h3⟩
   ·simp only [if_neg (show ¬ (rd_T81 l (i - 1)).f0 > (rd_T81 l i).f0 by omega), if_neg (show ¬ (rd_T81 l (i - 1)).f0 = (rd_T81 l i).f0 by omega)]
    exact hr
   ·simp only [if_neg (show ¬ (rd_T81 l (i - 1)).f0 > (rd_T81 l i).f0 by omega), if_pos h, if_neg (show ¬ (rd_T81 l (i - 1)).f1 ≥ (rd_T81 l i).f1 by omega), if_neg (show ¬ (rd_T81 l (i - 1)).f2 > (rd_T81 l i).f2 by omega)]
    exact hr
  ·refine Ev_shift ?_
   simp only [impl_IsTable.j1, Bool.false_eq_true, if_false, if_neg (show ¬ i = 0 by omega), w1, w2, if_pos (show 0 ≤ i - 1 by omega), if_pos (show i - 1 < (l.length : Int) by omega)]
   by_cases c1 : (rd_T81 l (i - 1)).f0 > (rd_T81 l i).f0
   ·simp only [if_pos c1]
    exact Ev.now _
   ·by_cases c2 : (rd_T81 l (i - 1)).f0 = (rd_T81 l i).f0
    ·by_cases c3 : (rd_T81 l (i - 1)).f1 ≥ (rd_T81 l i).f1
     ·simp only [if_neg c1, if_pos c2, if_pos c3]
      exact Ev.now _
     ·by_cases c4 : (rd_T81 l (i - 1)).f2 > (rd_T81 l i).f2
      ·simp only [if_neg c1, if_pos c2, if_neg c3, if_pos c4]
       exact Ev.now _
      ·exact absurd ⟨hf.1, hf.2.1, hf.2.2, fun _ => .inr ⟨c2, by omega, by omega⟩⟩ hp
    ·exact absurd ⟨hf.1, hf.2.1, hf.2.2, fun _ => .inl (by omega)⟩ hp
 ·refine ⟨fun hp r hr => ?_, fun hp => absurd ⟨hf.1, hf.2.1, hf.2.2, fun h => absurd h hi⟩ hp⟩
  refine Ev_shift ?_
  simp only [impl_IsTable.j1, Bool.false_eq_true, if_false, if_pos (show i = 0 by omega), w64 (n := i + 1) (by omega)]
  exact hr
theorem impl_isCalibre_eq (c : Int) : impl_isCalibre.f c = some (decide (20 ≤ c ∧ c ≤ 300)) := by
 unfold impl_isCalibre.f
 rw [within_eq]; rfl
theorem impl_IsTable_ev (l : List S81) (hn : l.length ≤ 140737488351232) : Ev (fun k => impl_IsTable.f k l) (tt (PTab l)) := by
 unfold impl_IsTable.f
 by_cases hl : (l.length : Int) > 12
 ·simp only [if_pos hl]
  exact Ev_some (tt_neg (fun h => by have := h.1; omega)).symm
 ·simp only [if_neg hl]
  have bad : ∀ i a b c, Ev (fun k => impl_IsTable.j1 k l i l l.length i true a b c) false := fun i a b c => by
   refine Ev_shift ?_
   simp only [impl_IsTable.j1, if_true]
   exact Ev.now _
  have := ev_all (L := fun i k => impl_IsTable.l0 k l l l.length i) (P := PT l) (n := l.length) (fin := true) (fun i h0 h1 hp r hr => ?_) (fun i h0 h1 hp => ?_) ?_ l.length 0 (by omega) (by omega)
  ·refine Ev_eq this ?_
   rw [Bool.true_and]
   exact tt_iff ⟨fun h => ⟨by omega, fun j h0 h1 => h j h0 h1⟩, fun h j h0 h1 => h.2 j h0 h1⟩
  ·refine Ev_shift ?_
   simp only [impl_IsTable.l0, if_pos h1, if_pos h0, impl_isKind_eq, impl_isCalibre_eq, within_eq, Option.bind_some, decide_eq_true_eq, if_pos hp.1, if_pos hp.2.1, decide_eq_true hp.2.2.1, Bool.not_true]
   exact (impl_IsTable_j1 l hn i h0 h1 ⟨hp.1, hp.2.1, hp.2.2.1⟩).1 hp r hr
  ·refine Ev_shift ?_
   simp only [impl_IsTable.l0, if_pos h1, if_pos h0, impl_isKind_eq, impl_isCalibre_eq, within_eq, Option.bind_some, decide_eq_true_eq]
   by_cases c1 : 0 ≤ (rd_T81 l i).f0 ∧ (rd_T81 l i).f0 ≤ 3
   ·by_cases c2 : 20 ≤ (rd_T81 l i).f1 ∧ (rd_T81 l i).f1 ≤ 300
    ·by_cases c3 : 0 ≤ (rd_T81 l i).f2 ∧ (rd_T81 l i).f2 ≤ 10000
     ·simp only [if_pos c1, if_pos c2, decide_eq_true c3, Bool.not_true]
      exact (impl_IsTable_j1 l hn i h0 h1 ⟨c1, c2, c3⟩).2 hp
     ·simp only [if_pos c1, if_pos c2, decide_eq_false c3, Bool.not_false]
      exact bad _ _ _ _
    ·simp only [if_pos c1, if_neg c2]
     exact bad _ _ _ _
   ·simp only [if_neg c1]
    exact bad _ _ _ _
  ·refine Ev_shift ?_
   simp only [impl_IsTable.l0, if_neg (show ¬ (l.length : Int) < l.length by omega)]
   exact Ev.now _
/-- The distance that a table asks for a calibre and a kind, -1 if it is forbidden. -/
def distM (cal kind : Int) : List S81 → Int → Int
 | [], acc => acc
 | d :: s, acc => if d.f0 = kind then (if d.f1 ≥ cal then d.f2 else distM cal kind s (-1)) else distM cal kind s acc
theorem spec_dist_l0 (l : List S81) (hn : l.length ≤ 140737488351232) (cal kind : Int) : ∀ (s : List S81) (i acc : Int), 0 ≤ i → l.drop i.toNat = s → Ev (fun k => spec_l16Distance.l0 k l cal kind acc i) (distM cal kind s acc)
 | [], i, acc, h0, h => by
  refine Ev_shift ?_
  simp only [spec_l16Distance.l0, if_neg (drop_nil h0 h)]
  exact Ev.now _
 | a :: s, i, acc, h0, h => by
  refine Ev_shift ?_
  obtain ⟨h1, h2, h3⟩ := drop_cons z81 h0 h
  have h2' : rd_T81 l i = a := h2
  unfold distM
  by_cases c1 : a.f0 = kind
  ·by_cases c2 : a.f1 ≥ cal
   ·simp only [spec_l16Distance.l0, if_pos h1, if_pos h0, h2', if_pos c1, if_pos c2]
    exact Ev.now _
   ·simp only [spec_l16Distance.l0, if_pos h1, if_pos h0, h2', if_pos c1, if_neg c2, w64 (n := i + 1) (by omega)]
    exact spec_dist_l0 l hn cal kind s (i + 1) (-1) (by omega) h3
  ·simp only [spec_l16Distance.l0, if_pos h1, if_pos h0, h2', if_neg c1, w64 (n := i + 1) (by omega)]
   exact spec_dist_l0 l hn cal kind s (i + 1) acc (by omega) h3
theorem spec_dist (l : List S81) (hn : l.length ≤ 140737488351232) (cal kind : Int) : Ev (fun k => spec_l16Distance.f k l cal kind) (distM cal kind l 0) := by
 unfold spec_l16Distance.f
 exact spec_dist_l0 l hn cal kind l 0 0 (by omega) rfl
theorem impl_dist_l0 (l : List S81) (hn : l.length ≤ 140737488351232) (cal kind : Int) : ∀ (s : List S81) (i acc : Int), 0 ≤ i → l.drop i.toNat = s → Ev (fun k => impl_distanceFor.l0 k cal kind acc l l.length i) (distM cal kind s acc)
 | [], i, acc, h0, h => by
  refine Ev_shift ?_
  simp only [impl_distanceFor.l0, if_neg (drop_nil h0 h)]
  exact Ev.now _
 | a :: s, i, acc, h0, h => by
  refine Ev_shift ?_
  obtain ⟨h1, h2, h3⟩ := drop_cons z81 h0 h
  have h2' : rd_T81 l i = a := h2
  unfold distM
  by_cases c1 : a.f0 = kind
  ·by_cases c2 : a.f1 ≥ cal
   ·simp only [impl_distanceFor.l0, if_pos h1, if_pos h0, h2', if_pos c1, if_pos c2]
    exact Ev.now _
   ·simp only [impl_distanceFor.l0, if_pos h1, if_pos h0, h2', if_pos c1, if_neg c2, w64 (n := i + 1) (by omega)]
    exact impl_dist_l0 l hn cal kind s (i + 1) (-1) (by omega) h3
  ·simp only [impl_distanceFor.l0, if_pos h1, if_pos h0, h2', if_neg c1, w64 (n := i + 1) (by omega)]
   exact impl_dist_l0 l hn cal kind s (i + 1) acc (by omega) h3
theorem impl_dist (l : List S81) (hn : l.length ≤ 140737488351232) (cal kind : Int) : Ev (fun k => impl_distanceFor.f k l cal kind) (distM cal kind l 0) := by
 unfold impl_distanceFor.f
 exact impl_dist_l0 l hn cal kind l 0 0 (by omega) rfl
theorem spec_ceil_eq {a : Int} (h : 0 ≤ a ∧ a ≤ 1000000000000) : spec_l01Ceil.f a 100 = some ((a + 99) / 100) := by
 unfold spec_l01Ceil.f spec_l01Floor.f
 rw [w64 (n := -a) (by omega), if_neg (by omega), if_neg (by omega), Int.neg_tmod, Int.neg_tdiv, Int.tmod_eq_emod_of_nonneg h.1, Int.tdiv_eq_ediv_of_nonneg h.1]
 by_cases c : -(a % 100) < 0
 ·rw [if_pos c, w64 (n := -(a / 100)) (by omega), w64 (n := -(a / 100) - 1) (by omega), Option.bind_some, w64 (by omega)]
  congr 1
  omega
 ·rw [if_neg c, w64 (n := -(a / 100)) (by omega), Option.bind_some, w64 (by omega)]
  congr 1
  omega
theorem impl_ceil_eq {a : Int} (h : 0 ≤ a ∧ a ≤ 1000000000000) : impl_ceilDiv.f a 100 = some ((a + 99) / 100) := by
 unfold impl_ceilDiv.f
 rw [if_neg (by omega), w64 (n := a + 100) (by omega), w64 (n := a + 100 - 1) (by omega), Int.tdiv_eq_ediv_of_nonneg (by omega), w64 (by omega)]
 congr 1
 omega
theorem table_at {l : List S81} (h : PTab l) : ∀ x ∈ l, (0 ≤ x.f0 ∧ x.f0 ≤ 3) ∧ (20 ≤ x.f1 ∧ x.f1 ≤ 300) ∧ (0 ≤ x.f2 ∧ x.f2 ≤ 10000) := by
 intro x hx
 obtain ⟨i, hi, rfl⟩ := List.mem_iff_getElem.1 hx
 have hp := h.2 (i : Int) (by omega) (by omega)
 have e : rd_T81 l (i : Int) = l[i] := by
  show l.getD _ _ = _
  rw [Int.toNat_natCast, List.getD_eq_getElem?_getD, List.getElem?_eq_getElem hi]
  rfl
 unfold PT at hp
 rw [e] at hp
 exact ⟨hp.1, hp.2.1, hp.2.2.1⟩
/-- A table with greater distances: what is done, what is left. -/
def widM (pc : Int) : List S81 → List S81 → List S81 × Int
 | p, [] => (p, 0)
 | p, d :: s => if d.f2 + (d.f2 * pc + 99) / 100 > 10000 then ([], 3) else widM pc (p ++ [⟨d.f0, d.f1, d.f2 + (d.f2 * pc + 99) / 100⟩]) s
theorem widM_length (pc : Int) : ∀ (s p : List S81), (widM pc p s).1.length ≤ p.length + s.length
 | [], p => by simp [widM]
 | d :: s, p => by
  unfold widM
  split
  ·simp
  ·have := widM_length pc s (p ++ [⟨d.f0, d.f1, d.f2 + (d.f2 * pc + 99) / 100⟩])
   simp at this ⊢
   omega
theorem wid_mul {a pc : Int} (ha : 0 ≤ a ∧ a ≤ 10000) (hp : 0 ≤ pc ∧ pc ≤ 100) : 0 ≤ a * pc ∧ a * pc ≤ 1000000 := by
 have h1 : 0 ≤ a * pc := Int.mul_nonneg ha.1 hp.1
 have h2 : a * pc ≤ a * 100 := Int.mul_le_mul_of_nonneg_left hp.2 ha.1
 omega
theorem spec_wid_l0 {pc : Int} (hp : 0 ≤ pc ∧ pc ≤ 100) : ∀ (s p : List S81), (∀ x ∈ s, 0 ≤ x.f2 ∧ x.f2 ≤ 10000) → p.length + s.length ≤ 1000 → Ev (fun k => spec_WidenTable.l0 k pc (p ++ s) (p.length : Int)) (widM pc p s)
 | [], p, hs, hl => by
  refine Ev_shift ?_
  simp only [spec_WidenTable.l0, List.append_nil, if_neg (show ¬ (p.length : Int) < p.length by omega), widM]
  exact Ev.now _
 | d :: s, p, hs, hl => by
  refine Ev_shift ?_
  have hd := hs d (by simp)
  have hm := wid_mul hd hp
  have hg : rd_T81 (p ++ d :: s) (p.length : Int) = d := getD_at_mid _ p d s
  unfold widM
  simp only [spec_WidenTable.l0, if_pos (show (p.length : Int) < ((p ++ d :: s).length : Int) by simp; omega), if_pos (show 0 ≤ (p.length : Int) by omega), hg, w64 (n := d.f2 * pc) (by omega), spec_ceil_eq (a := d.f2 * pc) (by omega), Option.bind_some, w64 (n := d.f2 + (d.f2 * pc + 99) / 100) (by omega)]
  by_cases c : d.f2 + (d.f2 * pc + 99) / 100 > 10000
  ·simp only [if_pos c]
   exact Ev.now _
  ·simp only [if_neg c, set_at_mid, w64 (n := (p.length : Int) + 1) (by simp at hl; omega)]
   have := spec_wid_l0 hp s (p ++ [⟨d.f0, d.f1, d.f2 + (d.f2 * pc + 99) / 100⟩]) (fun x hx => hs x (by simp [hx])) (by simp at hl ⊢; omega)
   simpa using this
theorem impl_wid_l0 {pc : Int} (hp : 0 ≤ pc ∧ pc ≤ 100) : ∀ (s p : List S81) (n : Int), n = (p.length + s.length : Nat) → (∀ x ∈ s, 0 ≤ x.f2 ∧ x.f2 ≤ 10000) → p.length + s.length ≤ 1000 → Ev (fun k => impl_WidenTable.l0 k pc (p ++ s) n (p.length : Int)) (widM pc p s)
 | [], p, n, hn, hs, hl => by
  refine Ev_shift ?_
  simp only [impl_WidenTable.l0, List.append_nil, if_neg (show ¬ (p.length : Int) < n by simp at hn; omega), widM]
  exact Ev.now _
 | d :: s, p, n, hn, hs, hl => by
  refine Ev_shift ?_
  have hd := hs d (by simp)
  have hm := wid_mul hd hp
  have hg : rd_T81 (p ++ d :: s) (p.length : Int) = d := getD_at_mid _ p d s
  unfold widM
  simp only [impl_WidenTable.l0, if_pos (show (p.length : Int) < n by simp at hn; omega), if_pos (show (p.length : Int) < ((p ++ d :: s).length : Int) by simp; omega), if_pos (show 0 ≤ (p.length : Int) by omega), hg, Int.mul_comm pc d.f2, w64 (n := d.f2 * pc) (by omega), impl_ceil_eq (a := d.f2 * pc) (by omega), Option.bind_some, w64 (n := d.f2 + (d.f2 * pc + 99) / 100) (by omega)]
  by_cases c : d.f2 + (d.f2 * pc + 99) / 100 > 10000
  ·simp only [if_pos c]
   exact Ev.now _
  ·simp only [if_neg c, set_at_mid, w64 (n := (p.length : Int) + 1) (by simp at hl; omega)]
   have := impl_wid_l0 hp s (p ++ [⟨d.f0, d.f1, d.f2 + (d.f2 * pc + 99) / 100⟩]) n (by simp at hn ⊢; omega) (fun x hx => hs x (by simp [hx])) (by simp at hl ⊢; omega)
   simpa using this
theorem dist_bd_ {cal kind : Int} : ∀ (s : List S81) (acc : Int), (∀ x ∈ s, 0 ≤ x.f2 ∧ x.f2 ≤ 10000) → -1 ≤ acc → acc ≤ 0 → -1 ≤ distM cal kind s acc ∧ distM cal kind s acc ≤ 10000
 | [], acc, _, h1, h2 => by
  unfold distM
  omega
 | d :: s, acc, h, h1, h2 => by
  unfold distM
  have hd := h d (by simp)
  split
  ·split
   ·omega
   ·exact dist_bd_ s (-1) (fun x hx => h x (by simp [hx])) (by omega) (by omega)
  ·exact dist_bd_ s acc (fun x hx => h x (by simp [hx])) h1 h2
theorem dist_bd {t : List S81} (h : PTab t) (cal kind : Int) : -1 ≤ distM cal kind t 0 ∧ distM cal kind t 0 ≤ 10000 :=
 dist_bd_ t 0 (fun x hx => (table_at h x hx).2.2) (by omega) (by omega)
theorem dd_bd {d : Int} (h : -1 ≤ d ∧ d ≤ 10000) : 0 ≤ d * d ∧ d * d ≤ 100000000 := by
 rcases Int.lt_or_le d 0 with c | c
 ·have e : d = -1 := by omega
  rw [e]
  decide
 ·have h1 := Int.mul_nonneg c c
  have h2 := Int.mul_self_le_mul_self c h.2
  omega
/-- A calibre is not allowed because of the area with an index. -/
def agP (t : List S81) (l : List S83) (c x y i : Int) : Prop := distM c (rd_T83 l i).f0 t 0 < 0 ∨ sqAt l x y i < distM c (rd_T83 l i).f0 t 0 * distM c (rd_T83 l i).f0 t 0
instance (t : List S81) (l : List S83) (c x y i : Int) : Decidable (agP t l c x y i) := by unfold agP; infer_instance
def agF (t : List S81) (l : List S83) (c x y : Int) : List Int := idxF (fun i => decide (agP t l c x y i)) l.length 0
theorem spec_ag {t : List S81} (ht : PTab t) {l : List S83} (h : PSite l) {x y : Int} (hp : PPlace x y) (c : Int) : Ev (fun k => spec_l16Against.f k t l c x y) (agF t l c x y) := by
 have hl := h.1
 have htl := ht.1
 unfold spec_l16Against.f
 have := ev_filter (L := fun i out k => spec_l16Against.l0 k t l c x y out i) (p := fun i => decide (agP t l c x y i)) (n := l.length) (fin := fun out => out)
  (fun i out h0 h1 h2 hp' r hr => by
   have hb := dd_bd (dist_bd ht c (rd_T83 l i).f0)
   refine Ev_shift ?_
   simp only [spec_l16Against.l0, if_pos h1, if_pos h0]
   refine Ev.bind (spec_dist t (by omega) c _) ?_
   rcases of_decide_eq_true hp' with g | g
   ·simp only [if_pos g, if_pos (show out.length < 17592186044416 by omega), w64 (n := i + 1) (by omega)]
    exact hr
   ·by_cases g2 : distM c (rd_T83 l i).f0 t 0 < 0
    ·simp only [if_pos g2, if_pos (show out.length < 17592186044416 by omega), w64 (n := i + 1) (by omega)]
     exact hr
    ·simp only [if_neg g2, spec_sqAt h hp h0 h1, Option.bind_some, w64 (n := distM c (rd_T83 l i).f0 t 0 * distM c (rd_T83 l i).f0 t 0) (by omega), if_pos g, if_pos (show out.length < 17592186044416 by omega), w64 (n := i + 1) (by omega)]
     exact hr)
  (fun i out h0 h1 h2 hp' r hr => by
   have hb := dd_bd (dist_bd ht c (rd_T83 l i).f0)
   have hn := of_decide_eq_false hp'
   refine Ev_shift ?_
   simp only [spec_l16Against.l0, if_pos h1, if_pos h0]
   refine Ev.bind (spec_dist t (by omega) c _) ?_
   simp only [if_neg (fun g => hn (.inl g)), spec_sqAt h hp h0 h1, Option.bind_some, w64 (n := distM c (rd_T83 l i).f0 t 0 * distM c (rd_T83 l i).f0 t 0) (by omega), if_neg (fun g => hn (.inr g)), w64 (n := i + 1) (by omega)]
   exact hr)
  (fun out h2 => by
   refine Ev_shift ?_
   simp only [spec_l16Against.l0, if_neg (show ¬ (l.length : Int) < l.length by omega)]
   exact Ev.now _) l.length 0 [] (by omega) (by omega) (by simp)
 exact this
theorem impl_ag {t : List S81} (ht : PTab t) {l : List S83} (h : PSite l) {x y : Int} (hp : PPlace x y) (c : Int) : Ev (fun k => impl_areasAgainst.f k t l c x y) (agF t l c x y) := by
 have hl := h.1
 have htl := ht.1
 unfold impl_areasAgainst.f
 have := ev_filter (L := fun i out k => impl_areasAgainst.l0 k t c x y out l l.length i) (p := fun i => decide (agP t l c x y i)) (n := l.length) (fin := fun out => out)
  (fun i out h0 h1 h2 hp' r hr => by
   have hb := dd_bd (dist_bd ht c (rd_T83 l i).f0)
   refine Ev_shift ?_
   simp only [impl_areasAgainst.l0, if_pos h1, if_pos h0]
   refine Ev.bind (impl_dist t (by omega) c _) ?_
   rcases of_decide_eq_true hp' with g | g
   ·simp only [if_pos g, if_pos (show out.length < 17592186044416 by omega), w64 (n := i + 1) (by omega)]
    exact hr
   ·by_cases g2 : distM c (rd_T83 l i).f0 t 0 < 0
    ·simp only [if_pos g2, if_pos (show out.length < 17592186044416 by omega), w64 (n := i + 1) (by omega)]
     exact hr
    ·simp only [if_neg g2, impl_sqAt h hp h0 h1, Option.bind_some, w64 (n := distM c (rd_T83 l i).f0 t 0 * distM c (rd_T83 l i).f0 t 0) (by omega), if_pos g, if_pos (show out.length < 17592186044416 by omega), w64 (n := i + 1) (by omega)]
     exact hr)
  (fun i out h0 h1 h2 hp' r hr => by
   have hb := dd_bd (dist_bd ht c (rd_T83 l i).f0)
   have hn := of_decide_eq_false hp'
   refine Ev_shift ?_
   simp only [impl_areasAgainst.l0, if_pos h1, if_pos h0]
   refine Ev.bind (impl_dist t (by omega) c _) ?_
   simp only [if_neg (fun g => hn (.inl g)), impl_sqAt h hp h0 h1, Option.bind_some, w64 (n := distM c (rd_T83 l i).f0 t 0 * distM c (rd_T83 l i).f0 t 0) (by omega), if_neg (fun g => hn (.inr g)), w64 (n := i + 1) (by omega)]
   exact hr)
  (fun out h2 => by
   refine Ev_shift ?_
   simp only [impl_areasAgainst.l0, if_neg (show ¬ (l.length : Int) < l.length by omega)]
   exact Ev.now _) l.length 0 [] (by omega) (by omega) (by simp)
 exact this
theorem impl_allowed {t : List S81} (ht : PTab t) {l : List S83} (h : PSite l) {x y : Int} (hp : PPlace x y) (c : Int) : Ev (fun k => impl_isAllowed.f k t l c x y) (decide (((agF t l c x y).length : Int) = 0)) := by
 unfold impl_isAllowed.f
 refine Ev.bind (impl_ag ht h hp c) ?_
 exact Ev.now _
theorem l16Code_ev (t : List S81) (hn : t.length ≤ 1000000) (l : List S83) (hl : l.length ≤ 1000000) (c x y : Int) : Ev (fun k => spec_l16Code.f k t l c x y) (if tt (PTab t) = true ∧ PSite l then (if PPlace x y ∧ 20 ≤ c ∧ c ≤ 300 then 0 else 2) else 1) := by
 unfold spec_l16Code.f
 refine Ev.bind (spec_IsTable_ev t (by omega)) ?_
 by_cases h : PTab t
 ·simp only [tt_pos h, if_true, true_and]
  refine Ev.bind (spec_l15Code_ev l (by omega) 0 x y) ?_
  by_cases h2 : PSite l
  ·by_cases h3 : PPlace x y
   ·simp only [if_pos h2, if_pos (show PPlace x y ∧ (0 : Int) ≤ 0 ∧ (0 : Int) ≤ 3 from ⟨h3, by omega, by omega⟩), if_true, l01In_eq, Option.bind_some]
    by_cases h4 : 20 ≤ c ∧ c ≤ 300
    ·simp only [decide_eq_true h4, if_pos (show PPlace x y ∧ 20 ≤ c ∧ c ≤ 300 from ⟨h3, h4⟩), if_true]
     exact Ev.now _
    ·simp only [decide_eq_false h4, if_neg (show ¬ (PPlace x y ∧ 20 ≤ c ∧ c ≤ 300) from fun g => h4 g.2), Bool.false_eq_true, if_false]
     exact Ev.now _
   ·simp only [if_pos h2, if_neg (show ¬ (PPlace x y ∧ (0 : Int) ≤ 0 ∧ (0 : Int) ≤ 3) from fun g => h3 g.1), if_neg (show ¬ (PPlace x y ∧ 20 ≤ c ∧ c ≤ 300) from fun g => h3 g.1), if_neg (show ¬ (2 : Int) = 0 by decide)]
    exact Ev.now _
  ·simp only [if_neg h2, if_neg (show ¬ (1 : Int) = 0 by decide)]
   exact Ev.now _
 ·simp only [tt_neg h, Bool.false_eq_true, if_false, false_and]
  exact Ev.now _
/-- All places are places. -/
def plP (xs ys : List Int) : Prop := ∀ j : Int, 0 ≤ j → j < xs.length → PPlace (rd xs j) (rd ys j)
theorem plP_iff {xs ys : List Int} (h : (xs.length : Int) = ys.length) : plP xs ys ↔ (∀ x ∈ xs, 0 ≤ x ∧ x ≤ 100000) ∧ ∀ y ∈ ys, 0 ≤ y ∧ y ≤ 100000 := by
 constructor
 ·intro hp
  constructor
  ·intro x hx
   obtain ⟨i, i0, i1, rfl⟩ := mem_rd hx
   have := hp i i0 i1
   unfold PPlace at this
   omega
  ·intro y hy
   obtain ⟨i, i0, i1, rfl⟩ := mem_rd hy
   have := hp i i0 (by omega)
   unfold PPlace at this
   omega
 ·rintro ⟨h1, h2⟩ j j0 j1
  have a := h1 _ (rd_mem j0 j1)
  have b := h2 _ (rd_mem (l := ys) j0 (by omega))
  unfold PPlace
  omega
/-- The places at which a calibre is allowed. -/
def plF (t : List S81) (l : List S83) (c : Int) (xs ys : List Int) : List Int := idxF (fun i => decide (((agF t l c (rd xs i) (rd ys i)).length : Int) = 0)) xs.length 0
theorem spec_pl_l1 {t : List S81} (ht : PTab t) {l : List S83} (h : PSite l) (c : Int) {xs ys : List Int} (hl : (xs.length : Int) = ys.length) (hx : xs.length ≤ 60) (hp : plP xs ys) : Ev (fun k => spec_AllowedPlaces.l1 k t l c xs ys [] 0) (plF t l c xs ys, 0) := by
 have := ev_filter (L := fun i out k => spec_AllowedPlaces.l1 k t l c xs ys out i) (p := fun i => decide (((agF t l c (rd xs i) (rd ys i)).length : Int) = 0)) (n := xs.length) (fin := fun out => (out, (0 : Int)))
  (fun i out h0 h1 h2 hp' r hr => by
   refine Ev_shift ?_
   simp only [spec_AllowedPlaces.l1, if_pos h1, if_pos h0, if_pos (show i < (ys.length : Int) by omega)]
   refine Ev.bind (spec_ag ht h (hp i h0 h1) c) ?_
   simp only [if_pos (of_decide_eq_true hp'), if_pos (show out.length < 17592186044416 by omega), w64 (n := i + 1) (by omega)]
   exact hr)
  (fun i out h0 h1 h2 hp' r hr => by
   refine Ev_shift ?_
   simp only [spec_AllowedPlaces.l1, if_pos h1, if_pos h0, if_pos (show i < (ys.length : Int) by omega)]
   refine Ev.bind (spec_ag ht h (hp i h0 h1) c) ?_
   simp only [if_neg (of_decide_eq_false hp'), w64 (n := i + 1) (by omega)]
   exact hr)
  (fun out h2 => by
   refine Ev_shift ?_
   simp only [spec_AllowedPlaces.l1, if_neg (show ¬ (xs.length : Int) < xs.length by omega)]
   exact Ev.now _) xs.length 0 [] (by omega) (by omega) (by simp)
 exact this
theorem impl_pl_l0 {t : List S81} (ht : PTab t) {l : List S83} (h : PSite l) (c : Int) {xs ys : List Int} (hl : (xs.length : Int) = ys.length) (hx : xs.length ≤ 60) (hp : plP xs ys) : Ev (fun k => impl_AllowedPlaces.l0 k t l c ys [] xs xs.length 0) (plF t l c xs ys, 0) := by
 have := ev_filter (L := fun i out k => impl_AllowedPlaces.l0 k t l c ys out xs xs.length i) (p := fun i => decide (((agF t l c (rd xs i) (rd ys i)).length : Int) = 0)) (n := xs.length) (fin := fun out => (out, (0 : Int)))
  (fun i out h0 h1 h2 hp' r hr => by
   refine Ev_shift ?_
   simp only [impl_AllowedPlaces.l0, if_pos h1, if_pos h0, if_pos (show i < (ys.length : Int) by omega)]
   refine Ev.bind (impl_allowed ht h (hp i h0 h1) c) ?_
   simp only [hp', if_true, if_pos (show out.length < 17592186044416 by omega), w64 (n := i + 1) (by omega)]
   exact hr)
  (fun i out h0 h1 h2 hp' r hr => by
   refine Ev_shift ?_
   simp only [impl_AllowedPlaces.l0, if_pos h1, if_pos h0, if_pos (show i < (ys.length : Int) by omega)]
   refine Ev.bind (impl_allowed ht h (hp i h0 h1) c) ?_
   simp only [hp', Bool.false_eq_true, if_false, w64 (n := i + 1) (by omega)]
   exact hr)
  (fun out h2 => by
   refine Ev_shift ?_
   simp only [impl_AllowedPlaces.l0, if_neg (show ¬ (xs.length : Int) < xs.length by omega)]
   exact Ev.now _) xs.length 0 [] (by omega) (by omega) (by simp)
 exact this
theorem spec_pl_l0 (t : List S81) (l : List S83) (c : Int) {xs ys : List Int} (hl : (xs.length : Int) = ys.length) (hx : xs.length ≤ 60) (q : List Int × Int) : ∀ (d : Nat) (i : Int), 0 ≤ i → i + d = xs.length → ((∀ j : Int, i ≤ j → j < xs.length → PPlace (rd xs j) (rd ys j)) → Ev (fun k => spec_AllowedPlaces.l1 k t l c xs ys [] 0) q) → (¬ (∀ j : Int, i ≤ j → j < xs.length → PPlace (rd xs j) (rd ys j)) → q = ([], 2)) → Ev (fun k => spec_AllowedPlaces.l0 k t l c xs ys 0 i) q
 | 0, i, h0, hd, ha, hb => by
  refine Ev_shift ?_
  simp only [spec_AllowedPlaces.l0, if_neg (show ¬ i < (xs.length : Int) by omega)]
  refine Ev_shift ?_
  simp only [spec_AllowedPlaces.j3, Bool.false_eq_true, if_false, if_true]
  exact ha (fun j j0 j1 => by omega)
 | d + 1, i, h0, hd, ha, hb => by
  refine Ev_shift ?_
  simp only [spec_AllowedPlaces.l0, if_pos (show i < (xs.length : Int) by omega), show ((0 : Int) == 0) = true from rfl]
  refine Ev_shift ?_
  simp only [spec_AllowedPlaces.j3, if_true, if_pos h0, if_pos (show i < (xs.length : Int) by omega), if_pos (show i < (ys.length : Int) by omega), spec_place_eq, Option.bind_some, w64 (n := i + 1) (by omega)]
  by_cases g : PPlace (rd xs i) (rd ys i)
  ·simp only [decide_eq_true g, if_true]
   refine spec_pl_l0 t l c hl hx q d (i + 1) (by omega) (by omega) (fun hh => ha fun j j0 j1 => ?_) (fun hh => hb fun h2 => hh fun j j0 j1 => h2 j (by omega) j1)
   by_cases e : j = i
   ·rw [e]; exact g
   ·exact hh j (by omega) j1
  ·simp only [decide_eq_false g, Bool.false_eq_true, if_false]
   have e := hb (fun hh => g (hh i (Int.le_refl _) (by omega)))
   rw [e]
   have last : ∀ b : Bool, (b = true → False) → Ev (fun k => spec_AllowedPlaces.j3 k t l c xs ys 2 (i + 1) b) (([] : List Int), (2 : Int)) := fun b hb => by
    have : b = false := by cases b; rfl; exact absurd rfl hb
    rw [this]
    refine Ev_shift ?_
    simp only [spec_AllowedPlaces.j3, Bool.false_eq_true, if_false, if_neg (show ¬ (2 : Int) = 0 by decide)]
    exact Ev.now _
   refine Ev_shift ?_
   simp only [spec_AllowedPlaces.l0]
   by_cases g2 : i + 1 < (xs.length : Int)
   ·simp only [if_pos g2]
    exact last _ (by decide)
   ·simp only [if_neg g2]
    exact last _ (by decide)
theorem places_ev (t : List S81) (hn : t.length ≤ 1000000) (l : List S83) (hl : l.length ≤ 1000000) (c : Int) (xs ys : List Int) (hx : xs.length ≤ 1000000) (hy : ys.length ≤ 1000000) : ∃ q : List Int × Int, Ev (fun k => spec_AllowedPlaces.f k t l c xs ys) q ∧ Ev (fun k => impl_AllowedPlaces.f k t l c xs ys) q ∧ q.1.length ≤ 1000000 ∧ (q.2 = 0 → PTab t ∧ PSite l ∧ (20 ≤ c ∧ c ≤ 300) ∧ (xs.length : Int) = ys.length ∧ xs.length ≤ 60 ∧ plP xs ys ∧ q.1 = plF t l c xs ys) := by
 have hs := l16Code_ev t hn l hl c 0 0
 have ht := impl_IsTable_ev t (by omega)
 have hi := impl_IsSite_ev l (by omega)
 have sfin : ∀ d : Int, d ≠ 0 → Ev (fun k => spec_AllowedPlaces.l0 k t l c xs ys d 0) (([] : List Int), d) := fun d hd => by
  have last : ∀ b : Bool, b = false → Ev (fun k => spec_AllowedPlaces.j3 k t l c xs ys d 0 b) (([] : List Int), d) := fun b hb => by
   rw [hb]
   refine Ev_shift ?_
   simp only [spec_AllowedPlaces.j3, Bool.false_eq_true, if_false, if_neg hd]
   exact Ev.now _
  refine Ev_shift ?_
  simp only [spec_AllowedPlaces.l0]
  by_cases g2 : 0 < (xs.length : Int)
  ·simp only [if_pos g2]
   exact last _ (by simpa using hd)
  ·simp only [if_neg g2]
   exact last _ rfl
 have sj : ∀ d : Int, d ≠ 0 → Ev (fun k => spec_AllowedPlaces.j0 k t l c xs ys d false) (([] : List Int), d) := fun d hd => by
  refine Ev_shift ?_
  simp only [spec_AllowedPlaces.j0, Bool.false_eq_true, if_false]
  refine Ev_shift ?_
  simp only [spec_AllowedPlaces.j1]
  exact sfin d hd
 have sj2 : ∀ d : Int, Ev (fun k => spec_AllowedPlaces.j0 k t l c xs ys d true) (([] : List Int), 2) := fun d => by
  refine Ev_shift ?_
  simp only [spec_AllowedPlaces.j0, if_true]
  refine Ev_shift ?_
  simp only [spec_AllowedPlaces.j1]
  exact sfin 2 (by decide)
 have bad : ¬ (tt (PTab t) = true ∧ PSite l) → Ev (fun k => spec_AllowedPlaces.f k t l c xs ys) (([] : List Int), (1 : Int)) ∧ Ev (fun k => impl_AllowedPlaces.f k t l c xs ys) (([] : List Int), (1 : Int)) := fun h => by
  rw [if_neg h] at hs
  have j : Ev (fun k => impl_AllowedPlaces.j0 k t l c xs ys true) (([] : List Int), (1 : Int)) := by
   refine Ev_shift ?_
   simp only [impl_AllowedPlaces.j0, if_true]
   exact Ev.now _
  refine ⟨?_, ?_⟩
  ·unfold spec_AllowedPlaces.f
   refine Ev.bind hs ?_
   simp only [if_neg (show ¬ (1 : Int) = 0 by decide)]
   exact sj 1 (by decide)
  ·unfold impl_AllowedPlaces.f
   refine Ev.bind ht ?_
   by_cases g : PTab t
   ·have g2 : ¬ PSite l := fun x => h ⟨tt_pos g, x⟩
    simp only [tt_pos g, if_true]
    refine Ev.bind hi ?_
    simp only [decide_eq_false g2, Bool.not_false]
    exact j
   ·simp only [tt_neg g, Bool.false_eq_true, if_false]
    exact j
 by_cases h : PTab t
 ·by_cases h2 : PSite l
  ·rw [if_pos ⟨tt_pos h, h2⟩] at hs
   have p0 : PPlace 0 0 := by unfold PPlace; omega
   have jump : ∀ q, Ev (fun k => impl_AllowedPlaces.j0 k t l c xs ys false) q → Ev (fun k => impl_AllowedPlaces.f k t l c xs ys) q := fun q hq => by
    unfold impl_AllowedPlaces.f
    refine Ev.bind ht ?_
    simp only [tt_pos h, if_true]
    refine Ev.bind hi ?_
    simp only [decide_eq_true h2, Bool.not_true]
    exact hq
   have ibad : Ev (fun k => impl_AllowedPlaces.j1 k t l c xs ys true) (([] : List Int), (2 : Int)) := by
    refine Ev_shift ?_
    simp only [impl_AllowedPlaces.j1, if_true]
    exact Ev.now _
   by_cases gc : 20 ≤ c ∧ c ≤ 300
   ·rw [if_pos ⟨p0, gc⟩] at hs
    by_cases gl : (xs.length : Int) = ys.length
    ·by_cases gx : (xs.length : Int) > 60
     ·refine ⟨([], 2), ?_, jump _ ?_, by simp, fun x => absurd x (by decide)⟩
      ·unfold spec_AllowedPlaces.f
       refine Ev.bind hs ?_
       simp only [if_true, if_pos gl, decide_eq_true gx]
       exact sj2 0
      ·refine Ev_shift ?_
       simp only [impl_AllowedPlaces.j0, Bool.false_eq_true, if_false, impl_isCalibre_eq, Option.bind_some, decide_eq_true gc, if_true, if_pos gx]
       exact ibad
     ·have hx60 : xs.length ≤ 60 := by omega
      have ex := allWithin_ev xs (by omega) 0 100000
      have ey := allWithin_ev ys (by omega) 0 100000
      have sg : ∀ q, Ev (fun k => spec_AllowedPlaces.l0 k t l c xs ys 0 0) q → Ev (fun k => spec_AllowedPlaces.f k t l c xs ys) q := fun q hq => by
       unfold spec_AllowedPlaces.f
       refine Ev.bind hs ?_
       simp only [if_true, if_pos gl, decide_eq_false gx]
       refine Ev_shift ?_
       simp only [spec_AllowedPlaces.j0, Bool.false_eq_true, if_false]
       refine Ev_shift ?_
       simp only [spec_AllowedPlaces.j1]
       exact hq
      by_cases gp : plP xs ys
      ·have gp2 := (plP_iff gl).1 gp
       have hlen := idxF_length (fun i => decide (((agF t l c (rd xs i) (rd ys i)).length : Int) = 0)) xs.length 0
       refine ⟨(plF t l c xs ys, 0), sg _ ?_, jump _ ?_, by show List.length (idxF _ _ _) ≤ _; omega, fun _ => ⟨h, h2, gc, gl, hx60, gp, rfl⟩⟩
       ·exact spec_pl_l0 t l c gl hx60 _ xs.length 0 (by omega) (by omega) (fun _ => spec_pl_l1 h h2 c gl hx60 gp) (fun hh => absurd (fun j j0 j1 => gp j j0 j1) hh)
       ·refine Ev_shift ?_
        simp only [impl_AllowedPlaces.j0, Bool.false_eq_true, if_false, impl_isCalibre_eq, Option.bind_some, decide_eq_true gc, if_true, if_neg gx, if_pos gl]
        refine Ev.bind ex ?_
        simp only [decide_eq_true gp2.1, if_true]
        refine Ev.bind ey ?_
        simp only [decide_eq_true gp2.2, Bool.not_true]
        refine Ev_shift ?_
        simp only [impl_AllowedPlaces.j1, Bool.false_eq_true, if_false]
        exact impl_pl_l0 h h2 c gl hx60 gp
      ·refine ⟨([], 2), sg _ ?_, jump _ ?_, by simp, fun x => absurd x (by decide)⟩
       ·exact spec_pl_l0 t l c gl hx60 _ xs.length 0 (by omega) (by omega) (fun hh => absurd (fun j j0 j1 => hh j j0 j1) gp) (fun _ => rfl)
       ·refine Ev_shift ?_
        simp only [impl_AllowedPlaces.j0, Bool.false_eq_true, if_false, impl_isCalibre_eq, Option.bind_some, decide_eq_true gc, if_true, if_neg gx, if_pos gl]
        refine Ev.bind ex ?_
        by_cases w1 : ∀ x ∈ xs, 0 ≤ x ∧ x ≤ 100000
        ·have w2 : ¬ ∀ y ∈ ys, 0 ≤ y ∧ y ≤ 100000 := fun w2 => gp ((plP_iff gl).2 ⟨w1, w2⟩)
         simp only [decide_eq_true w1, if_true]
         refine Ev.bind ey ?_
         simp only [decide_eq_false w2, Bool.not_false]
         exact ibad
        ·simp only [decide_eq_false w1, Bool.false_eq_true, if_false]
         exact ibad
    ·refine ⟨([], 2), ?_, jump _ ?_, by simp, fun x => absurd x (by decide)⟩
     ·unfold spec_AllowedPlaces.f
      refine Ev.bind hs ?_
      simp only [if_true, if_neg gl]
      exact sj2 0
     ·refine Ev_shift ?_
      simp only [impl_AllowedPlaces.j0, Bool.false_eq_true, if_false, impl_isCalibre_eq, Option.bind_some, decide_eq_true gc, if_true, if_neg gl]
      by_cases gx : (xs.length : Int) > 60
      ·simp only [if_pos gx]
       exact ibad
      ·simp only [if_neg gx]
       exact ibad
   ·rw [if_neg (fun x => gc x.2)] at hs
    refine ⟨([], 2), ?_, jump _ ?_, by simp, fun x => absurd x (by decide)⟩
    ·unfold spec_AllowedPlaces.f
     refine Ev.bind hs ?_
     simp only [if_neg (show ¬ (2 : Int) = 0 by decide)]
     exact sj 2 (by decide)
    ·refine Ev_shift ?_
     simp only [impl_AllowedPlaces.j0, Bool.false_eq_true, if_false, impl_isCalibre_eq, Option.bind_some, decide_eq_false gc]
     exact ibad
  ·have := bad (fun g => h2 g.2)
   exact ⟨_, this.1, this.2, by simp, fun x => absurd x (by decide)⟩
 ·have := bad (fun g => h (tt_eq_true.1 g.1))
  exact ⟨_, this.1, this.2, by simp, fun x => absurd x (by decide)⟩
theorem good16_l1 (c : List Int) (d : Nat) (kind : Int) (hk : 0 ≤ kind ∧ kind ≤ 3) (ih : ∀ (out : List S81) (a s : Int), Src c a s → out.length + 3 * d ≤ 12 → ∃ l a' s', Ev (fun k => spec_l16Good.l0 k out (kind + 1) c a s) (l, a', s') ∧ Src c a' s' ∧ l.length ≤ 12) : ∀ (e : Nat) (out : List S81) (p q a s : Int), Src c a s → out.length + e + 3 * d ≤ 12 → ∃ l a' s', Ev (fun k => spec_l16Good.l1 k out kind p q e c a s) (l, a', s') ∧ Src c a' s' ∧ l.length ≤ 12
 | e, out, p, q, a, s, h, hd => by
  have stop : ∃ l a' s', Ev (fun k => spec_l16Good.j2 k out kind p q e false c a s) (l, a', s') ∧ Src c a' s' ∧ l.length ≤ 12 := by
   obtain ⟨l, a', s', e1, h1⟩ := ih out a s h (by omega)
   refine ⟨l, a', s', Ev_shift ?_, h1⟩
   simp only [spec_l16Good.j2, Bool.false_eq_true, if_false, w64 (n := kind + 1) (by omega)]
   exact e1
  cases e with
  | zero =>
   obtain ⟨l, a', s', e1, h1⟩ := stop
   refine ⟨l, a', s', Ev_shift ?_, h1⟩
   simp only [spec_l16Good.l1, if_neg (show ¬ ((0 : Nat) : Int) > 0 by decide)]
   exact e1
  | succ e =>
   by_cases g : p < 300
   ·obtain ⟨v1, a1, s1, e1, h1, _, _⟩ := next_some h 120 (by omega)
    obtain ⟨v2, a2, s2, e2, h2, _⟩ := pick_some h1 [30, 55, wrap64 (1 + v1), 280] (by simp) (by simp)
    obtain ⟨v3, a3, s3, e3, h3, _, _⟩ := next_some h2 300 (by omega)
    obtain ⟨l, a', s', e4, h4⟩ := good16_l1 c d kind hk ih e (out ++ [(⟨kind, mn 300 (wrap64 (p + v2)), wrap64 (q + v3)⟩ : S81)]) (mn 300 (wrap64 (p + v2))) (wrap64 (q + v3)) a3 s3 h3 (by simp; omega)
    refine ⟨l, a', s', Ev_shift ?_, h4⟩
    simp only [spec_l16Good.l1, if_pos (show ((e + 1 : Nat) : Int) > 0 by omega), decide_eq_true g]
    refine Ev_shift ?_
    simp only [spec_l16Good.j2, if_true, e1, e2, e3, Option.bind_some, if_pos (show out.length < 5864062014805 by omega), show ((e + 1 : Nat) : Int) - 1 = (e : Int) by omega, w64 (n := (e : Int)) (by omega)]
    exact e4
   ·obtain ⟨l, a', s', e1, h1⟩ := stop
    refine ⟨l, a', s', Ev_shift ?_, h1⟩
    simp only [spec_l16Good.l1, if_pos (show ((e + 1 : Nat) : Int) > 0 by omega), decide_eq_false g]
    exact e1
theorem good16_l0 (c : List Int) : ∀ (d : Nat) (kind : Int) (out : List S81) (a s : Int), kind + d = 4 → 0 ≤ kind → Src c a s → out.length + 3 * d ≤ 12 → ∃ l a' s', Ev (fun k => spec_l16Good.l0 k out kind c a s) (l, a', s') ∧ Src c a' s' ∧ l.length ≤ 12
 | 0, kind, out, a, s, hk, k0, h, hd => by
  refine ⟨out, a, s, Ev_shift ?_, h, by omega⟩
  simp only [spec_l16Good.l0, if_neg (show ¬ kind < 4 by omega)]
  exact Ev.now _
 | d + 1, kind, out, a, s, hk, k0, h, hd => by
  obtain ⟨v, a1, s1, e1, h1, v0, v1⟩ := next_some h 4 (by omega)
  obtain ⟨l, a', s', e2, h2⟩ := good16_l1 c d kind (by omega) (fun out a s h hd => good16_l0 c d (kind + 1) out a s (by omega) (by omega) h hd) v.toNat out 20 0 a1 s1 h1 (by omega)
  rw [show ((v.toNat : Nat) : Int) = v by omega] at e2
  refine ⟨l, a', s', Ev_shift ?_, h2⟩
  simp only [spec_l16Good.l0, if_pos (show kind < 4 by omega), e1, Option.bind_some]
  exact e2
theorem good16_ev {c : List Int} {a s : Int} (h : Src c a s) : ∃ l a' s', Ev (fun k => spec_l16Good.f k c a s) (l, a', s') ∧ Src c a' s' ∧ l.length ≤ 12 := by
 unfold spec_l16Good.f
 exact good16_l0 c 4 0 [] a s (by omega) (by omega) h (by simp)
theorem draw16_ev {c : List Int} {a s : Int} (h : Src c a s) : ∃ l a' s', Ev (fun k => spec_l16Draw.f k c a s) (l, a', s') ∧ Src c a' s' ∧ l.length ≤ 30 := by
 obtain ⟨l, a1, s1, e1, h1, hl⟩ := good16_ev h
 by_cases g : (l.length : Int) > 0
 ·obtain ⟨v, a2, s2, e2, h2, v0, v1⟩ := next_some h1 (l.length : Int) (by omega)
  obtain ⟨u, a3, s3, e3, h3, _, _⟩ := next_some h2 30 (by omega)
  have hv : v < (l.length : Int) := by omega
  by_cases c0 : u = 0
  ·obtain ⟨p, a4, s4, e4, h4, _⟩ := pick_some h3 [(-1), 0, 10000, 10001] (by simp) (by simp)
   refine ⟨l.set v.toNat (⟨(rd_T81 l v).f0, (rd_T81 l v).f1, p⟩ : S81), a4, s4, ?_, h4, by simp; omega⟩
   unfold spec_l16Draw.f
   refine Ev.bind e1 ?_
   simp only [if_pos g, e2, e3, Option.bind_some, if_pos c0, e4, if_pos v0, if_pos hv]
   exact Ev.now _
  ·by_cases c1 : u = 1
   ·obtain ⟨p, a4, s4, e4, h4, _⟩ := pick_some h3 [19, 20, 300, 301] (by simp) (by simp)
    refine ⟨l.set v.toNat (⟨(rd_T81 l v).f0, p, (rd_T81 l v).f2⟩ : S81), a4, s4, ?_, h4, by simp; omega⟩
    unfold spec_l16Draw.f
    refine Ev.bind e1 ?_
    simp only [if_pos g, e2, e3, Option.bind_some, if_neg c0, if_pos c1, e4, if_pos v0, if_pos hv]
    exact Ev.now _
   ·by_cases c2 : u = 2
    ·refine ⟨l ++ [(⟨(rd_T81 l v).f0, (rd_T81 l v).f1, (rd_T81 l v).f2⟩ : S81)], a3, s3, ?_, h3, by simp; omega⟩
     unfold spec_l16Draw.f
     refine Ev.bind e1 ?_
     simp only [if_pos g, e2, e3, Option.bind_some, if_neg c0, if_neg c1, if_pos c2, if_pos v0, if_pos hv, if_pos (show l.length < 5864062014805 by omega)]
     exact Ev.now _
    ·refine ⟨l, a3, s3, ?_, h3, by omega⟩
     unfold spec_l16Draw.f
     refine Ev.bind e1 ?_
     simp only [if_pos g, e2, e3, Option.bind_some, if_neg c0, if_neg c1, if_neg c2]
     exact Ev.now _
 ·refine ⟨l, a1, s1, ?_, h1, by omega⟩
  unfold spec_l16Draw.f
  refine Ev.bind e1 ?_
  simp only [if_neg g]
  exact Ev.now _
theorem cal16_some {c : List Int} {a s : Int} (h : Src c a s) : ∃ v a' s', spec_l16Calibre.f c a s = some (v, a', s') ∧ Src c a' s' := by
 obtain ⟨v1, a1, s1, e1, h1, _, _⟩ := next_some h 281 (by omega)
 obtain ⟨v2, a2, s2, e2, h2, _, _⟩ := next_some h1 281 (by omega)
 obtain ⟨v3, a3, s3, e3, h3, _⟩ := pick_some h2 [19, 20, 300, 301] (by simp) (by simp)
 obtain ⟨v4, a4, s4, e4, h4, _⟩ := pick_some h3 [50, 75, 100, 150, wrap64 (20 + v1), wrap64 (20 + v2), v3] (by simp) (by simp)
 refine ⟨v4, a4, s4, ?_, h4⟩
 unfold spec_l16Calibre.f
 simp only [e1, e2, e3, e4, Option.bind_some]
theorem drawAllowed_ev (c : List Int) (hc : c.length ≤ 4096) (hb : ∀ x ∈ c, 0 ≤ x ∧ x ≤ 255) : ∃ (t : List S81) (l : List S83) (p x y : Int), Ev (fun k => spec_DrawIsAllowed.f k c) (t, l, p, x, y) ∧ t.length ≤ 30 ∧ l.length ≤ 30 := by
 obtain ⟨s, e0, h0⟩ := from_ev c hc hb
 obtain ⟨t, a1, s1, e1, h1, ht⟩ := draw16_ev h0
 obtain ⟨l, a2, s2, e2, h2, hl⟩ := site15_ev h1
 obtain ⟨x, y, a3, s3, e3, h3⟩ := at15_some h2
 obtain ⟨p, a4, s4, e4, h4⟩ := cal16_some h3
 refine ⟨t, l, p, x, y, ?_, ht, hl⟩
 unfold spec_DrawIsAllowed.f
 refine Ev.bind e0 (Ev.bind e1 (Ev.bind e2 ?_))
 simp only [e3, e4, Option.bind_some]
 exact Ev.now _
/-- One demand lies before another one. -/
def ltD (x y : S81) : Prop := x.f0 < y.f0 ∨ x.f0 = y.f0 ∧ x.f1 < y.f1
instance (x y : S81) : Decidable (ltD x y) := by unfold ltD; infer_instance
/-- A demand put to its place. -/
def insM (d : S81) : List S81 → List S81
 | [] => [d]
 | x :: r => if ltD x d then x :: insM d r else if x.f0 = d.f0 ∧ x.f1 = d.f1 then ⟨x.f0, x.f1, mx x.f2 d.f2⟩ :: r else d :: x :: r
theorem ltD_trans {x y z : S81} (h : ltD x y) (k : ltD y z) : ltD x z := by
 unfold ltD at *
 omega
theorem insM_length (d : S81) : ∀ l : List S81, (insM d l).length ≤ l.length + 1
 | [] => Nat.le_refl _
 | x :: r => by
  unfold insM
  have := insM_length d r
  split
  ·simp only [List.length_cons]; omega
  ·split
   ·simp only [List.length_cons]; omega
   ·simp only [List.length_cons]; omega
theorem insM_app (d : S81) (s : List S81) : ∀ p : List S81, (∀ x ∈ p, ltD x d) → insM d (p ++ s) = p ++ insM d s
 | [], _ => rfl
 | x :: p, h => by
  have e : insM d (x :: (p ++ s)) = x :: insM d (p ++ s) := by rw [insM, if_pos (h x (List.mem_cons_self ..))]
  show insM d (x :: (p ++ s)) = x :: (p ++ insM d s)
  rw [e, insM_app d s p (fun y hy => h y (List.mem_cons_of_mem _ hy))]
theorem insM_front (d : S81) : ∀ s : List S81, (∀ x ∈ s, ltD d x) → insM d s = d :: s
 | [], _ => rfl
 | x :: s, h => by
  have hx := h x (List.mem_cons_self ..)
  unfold ltD at hx
  unfold insM
  rw [if_neg (by unfold ltD; omega), if_neg (by omega)]
theorem insM_lb (z d : S81) (hz : ltD z d) : ∀ l : List S81, (∀ x ∈ l, ltD z x) → ∀ y ∈ insM d l, ltD z y
 | [], _, y, hy => by
  simp only [insM, List.mem_singleton] at hy
  rw [hy]; exact hz
 | x :: r, h, y, hy => by
  have hx := h x (List.mem_cons_self ..)
  have hr := fun y hy => h y (List.mem_cons_of_mem _ hy)
  unfold insM at hy
  split at hy
  ·rcases List.mem_cons.1 hy with rfl | hy
   ·exact hx
   ·exact insM_lb z d hz r hr y hy
  ·split at hy
   ·rcases List.mem_cons.1 hy with rfl | hy
    ·exact hx
    ·exact hr y hy
   ·rcases List.mem_cons.1 hy with rfl | hy
    ·exact hz
    ·exact h y hy
theorem insM_srt (d : S81) : ∀ l : List S81, l.Pairwise ltD → (insM d l).Pairwise ltD
 | [], _ => List.pairwise_singleton ..
 | x :: r, h => by
  obtain ⟨h1, h2⟩ := List.pairwise_cons.1 h
  unfold insM
  split
  ·rename_i hx
   exact List.pairwise_cons.2 ⟨ insM_lb x d hx r h1, insM_srt d r h2⟩
  ·rename_i hx
   split
   ·exact List.pairwise_cons.2 ⟨fun y hy => h1 y hy, h2⟩
   ·rename_i hk
    have hd : ltD d x := by
     unfold ltD at *
     omega
    exact List.pairwise_cons.2 ⟨fun y hy => (List.mem_cons.1 hy).elim (fun e => e ▸ hd) (fun hy => ltD_trans hd (h1 y hy)), h⟩
/-- All demands of a list put to their places. -/
def insAll : List S81 → List S81 → List S81
 | l, [] => l
 | l, d :: s => insAll (insM d l) s
theorem insAll_srt : ∀ (s l : List S81), l.Pairwise ltD → (insAll l s).Pairwise ltD
 | [], l, h => h
 | d :: s, l, h => insAll_srt s (insM d l) (insM_srt d l h)
theorem insAll_app : ∀ (a l b : List S81), insAll l (a ++ b) = insAll (insAll l a) b
 | [], l, b => rfl
 | d :: a, l, b => insAll_app a (insM d l) b
theorem insAll_self : ∀ (a p : List S81), (p ++ a).Pairwise ltD → insAll p a = p ++ a
 | [], p, _ => by simp [insAll]
 | d :: a, p, h => by
  have hp : ∀ x ∈ p, ltD x d := fun x hx => (List.pairwise_append.1 h).2.2 x hx d (List.mem_cons_self ..)
  show insAll (insM d p) a = _
  have e := insM_app d [] p hp
  rw [List.append_nil] at e
  rw [e]
  show insAll (p ++ [d]) a = _
  rw [insAll_self a (p ++ [d]) (by rw [List.append_assoc]; exact h), List.append_assoc]
  rfl
/-- The greatest distance so far is laid on, kind by kind. -/
def runF : S81 → List S81 → List S81
 | _, [] => []
 | e, x :: r => if e.f0 = x.f0 then (⟨x.f0, x.f1, mx x.f2 e.f2⟩ : S81) :: runF ⟨x.f0, x.f1, mx x.f2 e.f2⟩ r else x :: runF x r
def runM : List S81 → List S81
 | [] => []
 | x :: r => x :: runF x r
theorem runF_length : ∀ (r : List S81) (e : S81), (runF e r).length = r.length
 | [], _ => rfl
 | x :: r, e => by
  unfold runF
  split
  ·simp only [List.length_cons, runF_length r]
  ·simp only [List.length_cons, runF_length r]
theorem runM_length (l : List S81) : (runM l).length = l.length := by
 cases l with
 | nil => rfl
 | cons x r => simp only [runM, List.length_cons, runF_length]
theorem rd16_mid (p s : List S81) (x : S81) : rd_T81 (p ++ x :: s) (p.length : Int) = x := getD_at_mid _ p x s
theorem rd16_mid1 (p s : List S81) (x y : S81) : rd_T81 (p ++ x :: y :: s) ((p.length : Int) + 1) = y := by
 have h := rd16_mid (p ++ [x]) s y
 rw [List.append_assoc, List.length_append] at h
 exact h
theorem spec_merge_l2 : ∀ (s p : List S81) (e : S81), p.length + s.length ≤ 1000 → Ev (fun k => spec_MergeTables.l2 k (p ++ e :: s) ((p.length : Int) + 1)) (p ++ e :: runF e s, 0)
 | [], p, e, hl => by
  refine Ev_shift ?_
  simp only [spec_MergeTables.l2, if_neg (show ¬ (p.length : Int) + 1 < ((p ++ [e]).length : Int) by simp)]
  exact Ev.now _
 | x :: s, p, e, hl => by
  refine Ev_shift ?_
  have hlen : ((p ++ e :: x :: s).length : Int) = p.length + s.length + 2 := by simp; omega
  simp only [spec_MergeTables.l2, hlen, w64 (n := (p.length : Int)) (by simp only [List.length_cons] at hl; omega), w64 (n := (p.length : Int) + 1 + 1) (by simp only [List.length_cons] at hl; omega), show (p.length : Int) + 1 - 1 = p.length by omega, if_pos (show (p.length : Int) + 1 < (p.length : Int) + s.length + 2 by omega), if_pos (show 0 ≤ (p.length : Int) by omega), if_pos (show (p.length : Int) < (p.length : Int) + s.length + 2 by omega), if_pos (show 0 ≤ (p.length : Int) + 1 by omega), rd16_mid, rd16_mid1]
  unfold runF
  by_cases h : e.f0 = x.f0
  ·simp only [if_pos h]
   have es := set_at_mid (p ++ [e]) x (⟨x.f0, x.f1, mx x.f2 e.f2⟩ : S81) s
   rw [List.append_assoc, List.append_assoc, List.length_append] at es
   have ih := spec_merge_l2 s (p ++ [e]) (⟨x.f0, x.f1, mx x.f2 e.f2⟩ : S81) (by simp only [List.length_append, List.length_cons, List.length_nil] at hl ⊢; omega)
   rw [List.append_assoc, List.append_assoc, List.length_append] at ih
   have es2 : (p ++ e :: x :: s).set ((p.length : Int) + 1).toNat (⟨x.f0, x.f1, mx x.f2 e.f2⟩ : S81) = p ++ e :: (⟨x.f0, x.f1, mx x.f2 e.f2⟩ : S81) :: s := es
   rw [es2]
   exact ih
  ·simp only [if_neg h]
   have ih := spec_merge_l2 s (p ++ [e]) x (by simp only [List.length_append, List.length_cons, List.length_nil] at hl ⊢; omega)
   rw [List.append_assoc, List.append_assoc, List.length_append] at ih
   exact ih
theorem impl_merge_l2 : ∀ (s p : List S81) (e : S81), p.length + s.length ≤ 1000 → Ev (fun k => impl_MergeTables.l2 k (p ++ e :: s) ((p.length : Int) + 1)) (p ++ e :: runF e s, 0)
 | [], p, e, hl => by
  refine Ev_shift ?_
  simp only [impl_MergeTables.l2, if_neg (show ¬ (p.length : Int) + 1 < ((p ++ [e]).length : Int) by simp)]
  exact Ev.now _
 | x :: s, p, e, hl => by
  refine Ev_shift ?_
  have hlen : ((p ++ e :: x :: s).length : Int) = p.length + s.length + 2 := by simp; omega
  simp only [impl_MergeTables.l2, hlen, w64 (n := (p.length : Int)) (by simp only [List.length_cons] at hl; omega), w64 (n := (p.length : Int) + 1 + 1) (by simp only [List.length_cons] at hl; omega), show (p.length : Int) + 1 - 1 = p.length by omega, if_pos (show (p.length : Int) + 1 < (p.length : Int) + s.length + 2 by omega), if_pos (show 0 ≤ (p.length : Int) by omega), if_pos (show (p.length : Int) < (p.length : Int) + s.length + 2 by omega), if_pos (show 0 ≤ (p.length : Int) + 1 by omega), rd16_mid, rd16_mid1]
  unfold runF
  by_cases h : e.f0 = x.f0
  ·simp only [if_pos h]
   have es := set_at_mid (p ++ [e]) x (⟨x.f0, x.f1, mx x.f2 e.f2⟩ : S81) s
   rw [List.append_assoc, List.append_assoc, List.length_append] at es
   have ih := impl_merge_l2 s (p ++ [e]) (⟨x.f0, x.f1, mx x.f2 e.f2⟩ : S81) (by simp only [List.length_append, List.length_cons, List.length_nil] at hl ⊢; omega)
   rw [List.append_assoc, List.append_assoc, List.length_append] at ih
   have es2 : (p ++ e :: x :: s).set ((p.length : Int) + 1).toNat (⟨x.f0, x.f1, mx x.f2 e.f2⟩ : S81) = p ++ e :: (⟨x.f0, x.f1, mx x.f2 e.f2⟩ : S81) :: s := es
   rw [es2]
   exact ih
  ·simp only [if_neg h]
   have ih := impl_merge_l2 s (p ++ [e]) x (by simp only [List.length_append, List.length_cons, List.length_nil] at hl ⊢; omega)
   rw [List.append_assoc, List.append_assoc, List.length_append] at ih
   exact ih
theorem spec_merge_end (l : List S81) (hl : l.length ≤ 1000) : Ev (fun k => spec_MergeTables.l2 k l 1) (runM l, 0) := by
 cases l with
 | nil =>
  refine Ev_shift ?_
  simp only [spec_MergeTables.l2, if_neg (show ¬ (1 : Int) < (([] : List S81).length : Int) by simp)]
  exact Ev.now _
 | cons x r => exact spec_merge_l2 r [] x (by simp only [List.length_cons, List.length_nil] at hl ⊢; omega)
theorem impl_merge_end (l : List S81) (hl : l.length ≤ 1000) : Ev (fun k => impl_MergeTables.l2 k l 1) (runM l, 0) := by
 cases l with
 | nil =>
  refine Ev_shift ?_
  simp only [impl_MergeTables.l2, if_neg (show ¬ (1 : Int) < (([] : List S81).length : Int) by simp)]
  exact Ev.now _
 | cons x r => exact impl_merge_l2 r [] x (by simp only [List.length_cons, List.length_nil] at hl ⊢; omega)
/-- What merging tells. -/
def mergeR (l : List S81) : List S81 × Int := if l.length > 12 then ([], 3) else (runM l, 0)
theorem spec_merge_l1 (x0 b : List S81) (hb : b.length ≤ 100) (i : Int) (h0 : 0 ≤ i) (hi : i < b.length) : ∀ (s p : List S81), p.length + s.length ≤ 1000 → ∀ r, Ev (fun k => spec_MergeTables.l0 k x0 b (p ++ insM (rd_T81 b i) s) (i + 1)) r → Ev (fun k => spec_MergeTables.l1 k x0 b (p ++ s) i (p.length : Int)) r
 | [], p, hl, r, h => by
  refine Ev_shift ?_
  simp only [List.append_nil, List.length_nil] at hl ⊢
  simp only [spec_MergeTables.l1, if_neg (show ¬ (p.length : Int) < (p.length : Int) by omega), if_pos (show 0 ≤ (p.length : Int) by omega), if_pos (show (p.length : Int) ≤ (p.length : Int) by omega), Option.bind_some, Int.toNat_natCast, List.take_length, List.drop_length, List.nil_append, List.append_nil, List.length_append, List.length_cons, List.length_nil, if_pos h0, if_pos hi, Nat.zero_add, Nat.add_zero, if_pos (show p.length < 5864062014805 by omega), if_pos (show p.length + 1 < 5864062014805 by omega), w64 (n := i + 1) (by omega)]
  exact h
 | x :: s, p, hl, r, h => by
  refine Ev_shift ?_
  have hlen : ((p ++ x :: s).length : Int) = p.length + s.length + 1 := by simp; omega
  simp only [List.length_cons] at hl
  have etk : (p ++ x :: s).take p.length = p := List.take_left' rfl
  have edr : (p ++ x :: s).drop p.length = x :: s := List.drop_left' rfl
  have hins : ∀ q : Prop, q → (¬ ltD x (rd_T81 b i)) → ¬ (x.f0 = (rd_T81 b i).f0 ∧ x.f1 = (rd_T81 b i).f1) → Ev (fun k => spec_MergeTables.l0 k x0 b ((p ++ [rd_T81 b i]) ++ x :: s) (i + 1)) r := fun _ _ n1 n2 => by
   unfold insM at h
   rw [if_neg n1, if_neg n2] at h
   rw [List.append_assoc]
   exact h
  simp only [spec_MergeTables.l1, if_pos (show (p.length : Int) < ((p.length + (s.length + 1) : Nat) : Int) by omega), if_pos (show 0 ≤ (p.length : Int) by omega), if_pos h0, if_pos hi, before_eq, Option.bind_some, rd16_mid, decide_eq_true_eq, Int.toNat_natCast, etk, edr, set_at_mid, if_pos (show (p.length : Int) ≤ ((p.length + (s.length + 1) : Nat) : Int) by omega), List.nil_append, List.length_append, List.length_cons, List.length_nil, w64 (n := i + 1) (by omega), w64 (n := (p.length : Int) + 1) (by omega), Nat.zero_add, if_pos (show p.length < 5864062014805 by omega), if_pos (show p.length + 1 < 5864062014805 by omega), if_pos (show p.length + 1 + (s.length + 1) < 5864062014805 by omega)]
  by_cases c : x.f0 < (rd_T81 b i).f0 ∨ x.f0 = (rd_T81 b i).f0 ∧ x.f1 < (rd_T81 b i).f1
  ·simp only [if_pos c]
   have ih := spec_merge_l1 x0 b hb i h0 hi s (p ++ [x]) (by simp only [List.length_append, List.length_cons, List.length_nil]; omega) r (by
    unfold insM at h
    rw [if_pos (show ltD x (rd_T81 b i) from c)] at h
    rw [List.append_assoc]
    exact h)
   rw [List.append_assoc, List.length_append] at ih
   exact ih
  ·simp only [if_neg c]
   by_cases k1 : x.f0 = (rd_T81 b i).f0
   ·by_cases k2 : x.f1 = (rd_T81 b i).f1
    ·simp only [if_pos k1, if_pos k2]
     unfold insM at h
     rw [if_neg (show ¬ ltD x (rd_T81 b i) from c), if_pos ⟨k1, k2⟩] at h
     have est := set_at_mid p x (⟨x.f0, x.f1, mx x.f2 (rd_T81 b i).f2⟩ : S81) s
     rw [Int.toNat_natCast] at est
     rw [est]
     exact h
    ·simp only [if_pos k1, if_neg k2]
     exact hins True trivial c (fun e => k2 e.2)
   ·simp only [if_neg k1]
    exact hins True trivial c (fun e => k1 e.1)
theorem spec_merge_l0 (x0 b : List S81) (hb : b.length ≤ 100) : ∀ (s : List S81) (i : Int) (l : List S81), 0 ≤ i → i + s.length = b.length → b.drop i.toNat = s → l.length + s.length ≤ 900 → Ev (fun k => spec_MergeTables.l0 k x0 b l i) (mergeR (insAll l s))
 | [], i, l, h0, hi, hd, hl => by
  refine Ev_shift ?_
  simp only [List.length_nil] at hi hl
  simp only [spec_MergeTables.l0, if_neg (show ¬ i < (b.length : Int) by omega), insAll]
  by_cases h : l.length > 12
  ·simp only [if_pos (show (l.length : Int) > 12 by omega)]
   exact Ev_some (show ([], 3) = mergeR l from (if_pos h).symm)
  ·simp only [if_neg (show ¬ (l.length : Int) > 12 by omega)]
   rw [show mergeR l = (runM l, 0) from if_neg h]
   exact spec_merge_end l (by omega)
 | d :: s, i, l, h0, hi, hd, hl => by
  obtain ⟨g1, g2, g3⟩ := drop_cons (z := z81) h0 hd
  simp only [List.length_cons] at hi hl
  refine Ev_shift ?_
  simp only [spec_MergeTables.l0, if_pos (show i < (b.length : Int) by omega)]
  have e : rd_T81 b i = d := g2
  have := spec_merge_l1 x0 b hb i h0 (by omega) l [] (by simp only [List.length_nil]; omega) (mergeR (insAll l (d :: s))) (by
   rw [e]
   exact spec_merge_l0 x0 b hb s (i + 1) (insM d l) (by omega) (by omega) g3 (by have := insM_length d l; omega))
  exact this
theorem shift_set (p s : List S81) (z d : S81) : (shiftM_ ((p ++ s) ++ [z]) (p.length : Int)).set ((p.length : Int)).toNat d = p ++ d :: s := by
 unfold shiftM_
 rw [Int.toNat_natCast, List.append_assoc]
 have e1 : (p ++ (s ++ [z])).take (p.length + 1) = p ++ (s ++ [z]).take 1 := by
  rw [List.take_append, List.take_of_length_le (by omega)]
  congr 2
  omega
 have e2 : ((p ++ (s ++ [z])).drop p.length).take ((p ++ (s ++ [z])).length - (p.length + 1)) = s := by
  rw [List.drop_left' rfl]
  exact List.take_left' (by simp only [List.length_append, List.length_cons, List.length_nil]; omega)
 rw [e1, e2]
 obtain ⟨h, hh⟩ : ∃ h, (s ++ [z]).take 1 = [h] := by
  cases s with
  | nil => exact ⟨z, rfl⟩
  | cons x r => exact ⟨x, rfl⟩
 rw [hh, List.append_assoc]
 have := set_at_mid p h d s
 rw [Int.toNat_natCast] at this
 exact this
theorem impl_merge_l1 (c : List S81) (n i : Int) (hi : 0 ≤ i ∧ i < 1000) (d : S81) : ∀ (m : Nat) (p s : List S81), p.length = m → p.length + s.length ≤ 1000 → (p ++ s).Pairwise ltD → (∀ x ∈ s, ltD d x) → ∀ r, Ev (fun k => impl_MergeTables.l0 k (insM d (p ++ s)) c n (i + 1)) r → Ev (fun k => impl_MergeTables.l1 k (p ++ s) (p.length : Int) c n i d.f0 d.f1 d.f2) r
 | 0, p, s, hm, hl, hs, hg, r, h => by
  have hp : p = [] := List.eq_nil_of_length_eq_zero hm
  subst hp
  rw [List.nil_append, insM_front d s hg] at h
  refine Ev_shift ?_
  have es := shift_set [] s (⟨0, 0, 0⟩ : S81) d
  simp only [List.length_nil, List.nil_append] at es hl ⊢
  simp only [impl_MergeTables.l1, if_neg (show ¬ ((0 : Nat) : Int) > 0 by omega), if_pos (show s.length < 5864062014805 by omega), Option.bind_some, if_pos (show (0 : Int) ≤ ((0 : Nat) : Int) by omega), if_pos (show ((0 : Nat) : Int) < ((s ++ [(⟨0, 0, 0⟩ : S81)]).length : Int) by simp only [List.length_append, List.length_cons, List.length_nil]; omega), w64 (n := i + 1) (by omega), es]
  exact h
 | m + 1, p, s, hm, hl, hs, hg, r, h => by
  obtain ⟨q, e, rfl⟩ : ∃ q e, p = q ++ [e] := by
   rcases List.eq_nil_or_concat p with hp | ⟨q, e, hp⟩
   ·rw [hp] at hm; simp at hm
   ·exact ⟨q, e, by rw [hp, List.concat_eq_append]⟩
  have hq : q.length = m := by simpa using hm
  have hlen : ((q ++ [e]).length : Int) = (q.length : Int) + 1 := by simp
  have hx : (q ++ [e]) ++ s = q ++ e :: s := by rw [List.append_assoc]; rfl
  have hxl : ((q ++ e :: s).length : Int) = (q.length : Int) + s.length + 1 := by simp; omega
  have hl2 : q.length + s.length + 1 ≤ 1000 := by
   simp only [List.length_append, List.length_cons, List.length_nil] at hl
   omega
  rw [hx] at hs h ⊢
  have hqe : ∀ x ∈ q, ltD x e := fun x hx => (List.pairwise_append.1 hs).2.2 x hx e (List.mem_cons_self ..)
  have es : (shiftM_ ((q ++ e :: s) ++ [(⟨0, 0, 0⟩ : S81)]) ((q.length : Int) + 1)).set ((q.length : Int) + 1).toNat (⟨d.f0, d.f1, d.f2⟩ : S81) = q ++ ([e] ++ d :: s) := by
   have h1 := shift_set (q ++ [e]) s (⟨0, 0, 0⟩ : S81) d
   rw [hx, hlen] at h1
   rw [← List.append_assoc]
   exact h1
  have hins : ltD e d → Ev (fun k => impl_MergeTables.l0 k ((shiftM_ ((q ++ e :: s) ++ [(⟨0, 0, 0⟩ : S81)]) ((q.length : Int) + 1)).set ((q.length : Int) + 1).toNat (⟨d.f0, d.f1, d.f2⟩ : S81)) c n (i + 1)) r := fun he => by
   rw [es]
   have e1 := insM_app d s (q ++ [e]) (fun x hx => (List.mem_append.1 hx).elim (fun hx => ltD_trans (hqe x hx) he) (fun hx => by rw [List.mem_singleton.1 hx]; exact he))
   rw [hx, insM_front d s hg, List.append_assoc] at e1
   rw [e1] at h
   exact h
  refine Ev_shift ?_
  rw [hlen]
  simp only [impl_MergeTables.l1, if_pos (show (q.length : Int) + 1 > 0 by omega), w64 (n := (q.length : Int)) (by omega), show (q.length : Int) + 1 - 1 = q.length by omega, if_pos (show 0 ≤ (q.length : Int) by omega), hxl, if_pos (show (q.length : Int) < (q.length : Int) + s.length + 1 by omega), rd16_mid, set_at_mid, w64 (n := i + 1) (by omega), Option.bind_some, if_pos (show (q ++ e :: s).length < 5864062014805 by simp only [List.length_append, List.length_cons]; omega), if_pos (show 0 ≤ (q.length : Int) + 1 by omega), if_pos (show (q.length : Int) + 1 < (((q ++ e :: s) ++ [(⟨0, 0, 0⟩ : S81)]).length : Int) by simp only [List.length_append, List.length_cons, List.length_nil]; omega)]
  have hrec : ltD d e → Ev (fun k => impl_MergeTables.l1 k (q ++ e :: s) (q.length : Int) c n i d.f0 d.f1 d.f2) r := fun hd =>
   impl_merge_l1 c n i hi d m q (e :: s) hq (by simp only [List.length_cons]; omega) hs (fun x hx => (List.mem_cons.1 hx).elim (fun e1 => e1 ▸ hd) (fun hx => hg x hx)) r h
  by_cases c1 : e.f0 > d.f0
  ·simp only [if_pos c1]
   exact hrec (Or.inl c1)
  ·simp only [if_neg c1]
   by_cases c2 : e.f0 = d.f0
   ·simp only [if_pos c2]
    by_cases c3 : e.f1 > d.f1
    ·simp only [if_pos c3]
     exact hrec (Or.inr ⟨c2.symm, c3⟩)
    ·simp only [if_neg c3]
     by_cases c4 : e.f1 = d.f1
     ·simp only [if_pos c4]
      have hqd : ∀ x ∈ q, ltD x d := fun x hx => by
       have := hqe x hx
       unfold ltD at *
       omega
      have e1 := insM_app d (e :: s) q hqd
      rw [e1] at h
      unfold insM at h
      rw [if_neg (by unfold ltD; omega), if_pos ⟨c2, c4⟩] at h
      exact h
     ·simp only [if_neg c4]
      exact hins (Or.inr ⟨c2, by omega⟩)
   ·simp only [if_neg c2]
    exact hins (Or.inl (by omega))
theorem impl_merge_l0 (c : List S81) (hc : c.length ≤ 100) : ∀ (s : List S81) (i : Int) (l : List S81), 0 ≤ i → i + s.length = c.length → c.drop i.toNat = s → l.length + s.length ≤ 900 → l.Pairwise ltD → Ev (fun k => impl_MergeTables.l0 k l c (c.length : Int) i) (mergeR (insAll l s))
 | [], i, l, h0, hi, hd, hl, hs => by
  refine Ev_shift ?_
  simp only [List.length_nil] at hi hl
  simp only [impl_MergeTables.l0, if_neg (show ¬ i < (c.length : Int) by omega), insAll]
  by_cases h : l.length > 12
  ·simp only [if_pos (show (l.length : Int) > 12 by omega)]
   exact Ev_some (show ([], 3) = mergeR l from (if_pos h).symm)
  ·simp only [if_neg (show ¬ (l.length : Int) > 12 by omega)]
   rw [show mergeR l = (runM l, 0) from if_neg h]
   exact impl_merge_end l (by omega)
 | d :: s, i, l, h0, hi, hd, hl, hs => by
  obtain ⟨g1, g2, g3⟩ := drop_cons (z := z81) h0 hd
  simp only [List.length_cons] at hi hl
  refine Ev_shift ?_
  have e : rd_T81 c i = d := g2
  simp only [impl_MergeTables.l0, if_pos (show i < (c.length : Int) by omega), if_pos h0, e]
  have := impl_merge_l1 c (c.length : Int) i (by omega) d l.length l [] rfl (by simp only [List.length_nil]; omega) (by rw [List.append_nil]; exact hs) (fun x hx => by simp at hx) (mergeR (insAll l (d :: s))) (by
   rw [List.append_nil]
   exact impl_merge_l0 c hc s (i + 1) (insM d l) (by omega) (by omega) g3 (by have := insM_length d l; omega) (insM_srt d l hs))
  rw [List.append_nil] at this
  exact this
theorem tab_srt {l : List S81} (h : PTab l) : l.Pairwise ltD := by
 have at_ : ∀ (i : Nat) (hi : i < l.length), rd_T81 l (i : Int) = l[i] := fun i hi => by
  show l.getD _ _ = _
  rw [Int.toNat_natCast, List.getD_eq_getElem?_getD, List.getElem?_eq_getElem hi]
  rfl
 have step : ∀ (i : Nat) (hi : i + 1 < l.length), ltD (l[i]'(by omega)) (l[i + 1]'hi) := fun i hi => by
  have hp := (h.2 ((i + 1 : Nat) : Int) (by omega) (by omega)).2.2.2 (by omega)
  have e : ((i + 1 : Nat) : Int) - 1 = (i : Int) := by omega
  rw [e, at_ i (by omega), at_ (i + 1) hi] at hp
  unfold ltD
  omega
 have far : ∀ (d i : Nat) (hi : i + d + 1 < l.length), ltD (l[i]'(by omega)) (l[i + d + 1]'hi) := fun d => by
  induction d with
  | zero => exact fun i hi => step i hi
  | succ d ih => exact fun i hi => ltD_trans (ih i (by omega)) (step (i + d + 1) (by omega))
 rw [List.pairwise_iff_getElem]
 intro i j hi hj hij
 obtain ⟨d, rfl⟩ : ∃ d, j = i + d + 1 := ⟨j - i - 1, by omega⟩
 exact far d i hj
theorem spec_merge_pos {a b : List S81} (ha : PTab a) (hb : PTab b) : Ev (fun k => spec_MergeTables.f k a b) (mergeR (insAll a b)) := by
 have h1 := ha.1
 have h2 := hb.1
 unfold spec_MergeTables.f
 refine Ev.bind (Ev_eq (spec_IsTable_ev a (by omega)) (tt_pos ha)) ?_
 simp only [if_true]
 refine Ev.bind (Ev_eq (spec_IsTable_ev b (by omega)) (tt_pos hb)) ?_
 refine Ev_shift ?_
 simp only [spec_MergeTables.j0, Bool.not_true, Bool.false_eq_true, if_false, Option.bind_some, List.length_nil, if_pos (show 0 + a.length < 5864062014805 by omega), List.nil_append]
 exact spec_merge_l0 a b (by omega) b 0 a (by omega) (by omega) rfl (by omega)
theorem impl_merge_pos {a b : List S81} (ha : PTab a) (hb : PTab b) : Ev (fun k => impl_MergeTables.f k a b) (mergeR (insAll a b)) := by
 have h1 := ha.1
 have h2 := hb.1
 unfold impl_MergeTables.f
 refine Ev.bind (Ev_eq (impl_IsTable_ev a (by omega)) (tt_pos ha)) ?_
 simp only [if_true]
 refine Ev.bind (Ev_eq (impl_IsTable_ev b (by omega)) (tt_pos hb)) ?_
 refine Ev_shift ?_
 simp only [impl_MergeTables.j0, Bool.not_true, Bool.false_eq_true, if_false, Option.bind_some, List.length_nil, if_pos (show 0 + a.length < 5864062014805 by omega), List.nil_append, if_pos (show a.length + b.length < 5864062014805 by omega)]
 have := impl_merge_l0 (a ++ b) (by rw [List.length_append]; omega) (a ++ b) 0 [] (by omega) (by omega) rfl (by rw [List.length_append, List.length_nil]; omega) List.Pairwise.nil
 rw [insAll_app, insAll_self a [] (by rw [List.nil_append]; exact tab_srt ha), List.nil_append] at this
 exact this
theorem merge_neg {a b : List S81} (la : a.length ≤ 1000000) (lb : b.length ≤ 1000000) (h : ¬ (PTab a ∧ PTab b)) : Ev (fun k => spec_MergeTables.f k a b) ([], 1) ∧ Ev (fun k => impl_MergeTables.f k a b) ([], 1) := by
 have js : Ev (fun k => spec_MergeTables.j0 k a b true) ([], 1) := by
  refine Ev_shift ?_
  simp only [spec_MergeTables.j0, if_true]
  exact Ev.now _
 have ji : Ev (fun k => impl_MergeTables.j0 k a b true) ([], 1) := by
  refine Ev_shift ?_
  simp only [impl_MergeTables.j0, if_true]
  exact Ev.now _
 unfold spec_MergeTables.f impl_MergeTables.f
 by_cases ha : PTab a
 ·have hb : ¬ PTab b := fun hb => h ⟨ha, hb⟩
  refine ⟨Ev.bind (Ev_eq (spec_IsTable_ev a (by omega)) (tt_pos ha)) ?_, Ev.bind (Ev_eq (impl_IsTable_ev a (by omega)) (tt_pos ha)) ?_⟩
  ·simp only [if_true]
   exact Ev.bind (Ev_eq (spec_IsTable_ev b (by omega)) (tt_neg hb)) js
  ·simp only [if_true]
   exact Ev.bind (Ev_eq (impl_IsTable_ev b (by omega)) (tt_neg hb)) ji
 ·refine ⟨Ev.bind (Ev_eq (spec_IsTable_ev a (by omega)) (tt_neg ha)) ?_, Ev.bind (Ev_eq (impl_IsTable_ev a (by omega)) (tt_neg ha)) ?_⟩
  ·simp only [Bool.false_eq_true, if_false]
   exact js
  ·simp only [Bool.false_eq_true, if_false]
   exact ji
theorem mergeR_length (l : List S81) : (mergeR l).1.length ≤ 12 := by
 unfold mergeR
 split
 ·exact Nat.zero_le _
 ·rw [runM_length]
  omega
theorem wid_val (m0 : List S81) (a1 : Int) (hn0 : m0.length ≤ 1000000) : ∃ q : List S81 × Int, Ev (fun k => spec_WidenTable.f k m0 a1) q ∧ Ev (fun k => impl_WidenTable.f k m0 a1) q ∧ q.1.length ≤ 1000 ∧ (PTab m0 ∧ (0 ≤ a1 ∧ a1 ≤ 100) ∧ q = widM a1 [] m0 ∨ PTab m0 ∧ q.2 = 2 ∨ ¬ PTab m0 ∧ q.2 = 1) := by
 have hs := spec_IsTable_ev m0 (by omega)
 have hi := impl_IsTable_ev m0 (by omega)
 by_cases h : PTab m0
 ·have hl := h.1
  by_cases c1 : 0 ≤ a1 ∧ a1 ≤ 100
  ·have hw := widM_length a1 m0 []
   refine ⟨ widM a1 [] m0, ?_, ?_, by simp at hw; omega, Or.inl ⟨h, c1, rfl⟩⟩
   ·unfold spec_WidenTable.f
    refine Ev.bind hs ?_
    simp only [tt_pos h, if_true, l01In_eq, Option.bind_some, decide_eq_true_eq, if_pos c1, if_pos (show ([] : List S81).length + m0.length < 5864062014805 by simp; omega)]
    exact spec_wid_l0 c1 m0 [] (fun x hx => (table_at h x hx).2.2) (by simp; omega)
   ·unfold impl_WidenTable.f
    refine Ev.bind hi ?_
    simp only [tt_pos h, if_true, within_eq, Option.bind_some, decide_eq_true_eq, if_pos c1, if_pos (show ([] : List S81).length + m0.length < 5864062014805 by simp; omega)]
    exact impl_wid_l0 c1 m0 [] _ (by simp) (fun x hx => (table_at h x hx).2.2) (by simp; omega)
  ·refine ⟨([], 2), ?_, ?_, by simp, Or.inr (Or.inl ⟨h, rfl⟩)⟩
   ·unfold spec_WidenTable.f
    refine Ev.bind hs ?_
    simp only [tt_pos h, if_true, l01In_eq, Option.bind_some, decide_eq_true_eq, if_neg c1]
    exact Ev.now _
   ·unfold impl_WidenTable.f
    refine Ev.bind hi ?_
    simp only [tt_pos h, if_true, within_eq, Option.bind_some, decide_eq_true_eq, if_neg c1]
    exact Ev.now _
 ·refine ⟨([], 1), ?_, ?_, by simp, Or.inr (Or.inr ⟨h, rfl⟩)⟩
  ·unfold spec_WidenTable.f
   refine Ev.bind hs ?_
   simp only [tt_neg h, Bool.false_eq_true, if_false]
   exact Ev.now _
  ·unfold impl_WidenTable.f
   refine Ev.bind hi ?_
   simp only [tt_neg h, Bool.false_eq_true, if_false]
   exact Ev.now _
/-- A demand with a greater distance. -/
def wd16 (pc : Int) (d : S81) : S81 := ⟨d.f0, d.f1, d.f2 + (d.f2 * pc + 99) / 100⟩
theorem widM_val (pc : Int) : ∀ (s p : List S81), (widM pc p s = ([], 3)) ∨ (widM pc p s = (p ++ s.map (wd16 pc), 0) ∧ ∀ d ∈ s, (wd16 pc d).f2 ≤ 10000)
 | [], p => Or.inr ⟨by simp [widM], fun d hd => by simp at hd⟩
 | d :: s, p => by
  unfold widM
  by_cases c : d.f2 + (d.f2 * pc + 99) / 100 > 10000
  ·rw [if_pos c]
   exact Or.inl rfl
  ·rw [if_neg c]
   rcases widM_val pc s (p ++ [⟨d.f0, d.f1, d.f2 + (d.f2 * pc + 99) / 100⟩]) with e | ⟨e, h⟩
   ·exact Or.inl e
   ·refine Or.inr ⟨?_, fun x hx => ?_⟩
    ·rw [e, List.append_assoc]
     rfl
    ·rcases List.mem_cons.1 hx with e1 | hx
     ·rw [e1]
      show d.f2 + (d.f2 * pc + 99) / 100 ≤ 10000
      omega
     ·exact h x hx
theorem rd16_map (pc : Int) (t : List S81) (j : Int) (h0 : 0 ≤ j) (h1 : j < t.length) : rd_T81 (t.map (wd16 pc)) j = wd16 pc (rd_T81 t j) := by
 have hj : j.toNat < t.length := by omega
 show (t.map (wd16 pc)).getD j.toNat _ = wd16 pc (t.getD j.toNat _)
 rw [List.getD_eq_getElem?_getD, List.getD_eq_getElem?_getD, List.getElem?_map, List.getElem?_eq_getElem hj]
 rfl
theorem wid_mono {a b pc : Int} (ha : 0 ≤ a) (hp : 0 ≤ pc) (h : a ≤ b) : a + (a * pc + 99) / 100 ≤ b + (b * pc + 99) / 100 := by
 have := Int.mul_le_mul_of_nonneg_right h hp
 omega
theorem wid_tab {pc : Int} (hp : 0 ≤ pc ∧ pc ≤ 100) {t : List S81} (h : PTab t) (hb : ∀ d ∈ t, (wd16 pc d).f2 ≤ 10000) : PTab (t.map (wd16 pc)) := by
 refine ⟨by rw [List.length_map]; exact h.1, fun j h0 h1 => ?_⟩
 rw [List.length_map] at h1
 have hj := h.2 j h0 h1
 have hm : rd_T81 t j ∈ t := by
  have hjn : j.toNat < t.length := by omega
  have e : rd_T81 t j = t[j.toNat] := by
   show t.getD _ _ = _
   rw [List.getD_eq_getElem?_getD, List.getElem?_eq_getElem hjn]
   rfl
  rw [e]
  exact List.getElem_mem hjn
 have hbj := hb _ hm
 have w0 := wid_mono (a := 0) (b := (rd_T81 t j).f2) (pc := pc) (by omega) hp.1 hj.2.2.1.1
 unfold PT
 rw [rd16_map pc t j h0 h1]
 refine ⟨hj.1, hj.2.1, ⟨?_, hbj⟩, fun hpos => ?_⟩
 ·show 0 ≤ (rd_T81 t j).f2 + ((rd_T81 t j).f2 * pc + 99) / 100
  omega
 ·have hk := h.2 (j - 1) (by omega) (by omega)
  rw [rd16_map pc t (j - 1) (by omega) (by omega)]
  rcases hj.2.2.2 hpos with g | ⟨g1, g2, g3⟩
  ·exact Or.inl g
  ·exact Or.inr ⟨g1, g2, wid_mono hk.2.2.1.1 hp.1 g3⟩
theorem rd16_at {l : List S81} (i : Nat) (hi : i < l.length) : rd_T81 l (i : Int) = l[i] := by
 show l.getD _ _ = _
 rw [Int.toNat_natCast, List.getD_eq_getElem?_getD, List.getElem?_eq_getElem hi]
 rfl
/-- A demand lies before another one, and asks no more if the kind is the same. -/
def qD (x y : S81) : Prop := ltD x y ∧ (x.f0 = y.f0 → x.f2 ≤ y.f2)
theorem qD_trans {x y z : S81} (h : qD x y) (k : qD y z) : qD x z := by
 refine ⟨ ltD_trans h.1 k.1, fun e => ?_⟩
 have h1 := h.1
 have k1 := k.1
 unfold ltD at h1 k1
 have := h.2 (by omega)
 have := k.2 (by omega)
 omega
theorem tab_q {l : List S81} (h : PTab l) : l.Pairwise qD := by
 have step : ∀ (i : Nat) (hi : i + 1 < l.length), qD (l[i]'(by omega)) (l[i + 1]'hi) := fun i hi => by
  have hp := (h.2 ((i + 1 : Nat) : Int) (by omega) (by omega)).2.2.2 (by omega)
  have e : ((i + 1 : Nat) : Int) - 1 = (i : Int) := by omega
  rw [e, rd16_at i (by omega), rd16_at (i + 1) hi] at hp
  unfold qD ltD
  omega
 have far : ∀ (d i : Nat) (hi : i + d + 1 < l.length), qD (l[i]'(by omega)) (l[i + d + 1]'hi) := fun d => by
  induction d with
  | zero => exact fun i hi => step i hi
  | succ d ih => exact fun i hi => qD_trans (ih i (by omega)) (step (i + d + 1) (by omega))
 rw [List.pairwise_iff_getElem]
 intro i j hi hj hij
 obtain ⟨d, rfl⟩ : ∃ d, j = i + d + 1 := ⟨j - i - 1, by omega⟩
 exact far d i hj
/-- A demand's numbers are right. -/
def rng16 (x : S81) : Prop := (0 ≤ x.f0 ∧ x.f0 ≤ 3) ∧ (20 ≤ x.f1 ∧ x.f1 ≤ 300) ∧ (0 ≤ x.f2 ∧ x.f2 ≤ 10000)
theorem insM_rng {d : S81} (hd : rng16 d) : ∀ l : List S81, (∀ x ∈ l, rng16 x) → ∀ y ∈ insM d l, rng16 y
 | [], _, y, hy => by
  simp only [insM, List.mem_singleton] at hy
  rw [hy]; exact hd
 | x :: r, h, y, hy => by
  have hx := h x (List.mem_cons_self ..)
  have hr := fun y hy => h y (List.mem_cons_of_mem _ hy)
  unfold insM at hy
  split at hy
  ·rcases List.mem_cons.1 hy with rfl | hy
   ·exact hx
   ·exact insM_rng hd r hr y hy
  ·split at hy
   ·rcases List.mem_cons.1 hy with rfl | hy
    ·refine ⟨hx.1, hx.2.1, ?_⟩
     have := hx.2.2
     have := hd.2.2
     show 0 ≤ mx x.f2 d.f2 ∧ mx x.f2 d.f2 ≤ 10000
     rw [mx_eq]
     omega
    ·exact hr y hy
   ·rcases List.mem_cons.1 hy with rfl | hy
    ·exact hd
    ·exact h y hy
theorem insAll_rng : ∀ (s l : List S81), (∀ x ∈ s, rng16 x) → (∀ x ∈ l, rng16 x) → ∀ y ∈ insAll l s, rng16 y
 | [], l, _, hl => hl
 | d :: s, l, hs, hl => insAll_rng s (insM d l) (fun x hx => hs x (List.mem_cons_of_mem _ hx)) (insM_rng (hs d (List.mem_cons_self ..)) l hl)
/-- The list goes on rightly behind e. -/
def chn (e : S81) : List S81 → Prop
 | [] => True
 | x :: r => (rng16 x ∧ qD e x) ∧ chn x r
theorem runF_chn : ∀ (r : List S81) (e : S81), rng16 e → (∀ x ∈ r, rng16 x) → (e :: r).Pairwise ltD → chn e (runF e r)
 | [], e, _, _, _ => trivial
 | x :: r, e, he, hr, h => by
  obtain ⟨h1, h2⟩ := List.pairwise_cons.1 h
  have hx := hr x (List.mem_cons_self ..)
  have hr2 := fun y hy => hr y (List.mem_cons_of_mem _ hy)
  have hex := h1 x (List.mem_cons_self ..)
  obtain ⟨h3, h4⟩ := List.pairwise_cons.1 h2
  unfold runF
  by_cases c : e.f0 = x.f0
  ·rw [if_pos c]
   have hm : rng16 (⟨x.f0, x.f1, mx x.f2 e.f2⟩ : S81) := by
    refine ⟨hx.1, hx.2.1, ?_⟩
    have := hx.2.2
    have := he.2.2
    show 0 ≤ mx x.f2 e.f2 ∧ mx x.f2 e.f2 ≤ 10000
    rw [mx_eq]
    omega
   refine ⟨⟨hm, hex, fun _ => ?_⟩, runF_chn r _ hm hr2 (List.pairwise_cons.2 ⟨fun y hy => h3 y hy, h4⟩)⟩
   show e.f2 ≤ mx x.f2 e.f2
   rw [mx_eq]
   omega
  ·rw [if_neg c]
   exact ⟨⟨hx, hex, fun e1 => absurd e1 c⟩, runF_chn r x hx hr2 h2⟩
theorem chn_at : ∀ (r : List S81) (e : S81), chn e r → ∀ (i : Nat) (hi : i < r.length), rng16 r[i] ∧ qD ((e :: r)[i]'(by simp only [List.length_cons]; omega)) r[i]
 | x :: r, e, h, 0, hi => h.1
 | x :: r, e, h, i + 1, hi => chn_at r x h.2 i (by simpa using hi)
theorem merge_tab {a b : List S81} (ha : PTab a) (hb : PTab b) (hl : (insAll a b).length ≤ 12) : PTab (runM (insAll a b)) := by
 have hr := insAll_rng b a (table_at hb) (table_at ha)
 have hs := insAll_srt b a (tab_srt ha)
 revert hr hs hl
 generalize insAll a b = l
 intro hl hr hs
 cases l with
 | nil => exact ⟨by simp [runM], fun j h0 h1 => by simp [runM] at h1; omega⟩
 | cons e r =>
  have hc := runF_chn r e (hr e (List.mem_cons_self ..)) (fun x hx => hr x (List.mem_cons_of_mem _ hx)) hs
  have hlen := runF_length r e
  refine ⟨by rw [runM_length]; exact hl, fun j h0 h1 => ?_⟩
  obtain ⟨i, rfl⟩ : ∃ i : Nat, j = i := ⟨j.toNat, by omega⟩
  have hi : i < (e :: runF e r).length := by
   have h2 : i < (runM (e :: r)).length := by omega
   exact h2
  show PT (e :: runF e r) i
  unfold PT
  rw [rd16_at i hi]
  cases i with
  | zero =>
   have he := hr e (List.mem_cons_self ..)
   exact ⟨he.1, he.2.1, he.2.2, fun h => by omega⟩
  | succ i =>
   have hi2 : i < (runF e r).length := by simpa using hi
   obtain ⟨g1, g2⟩ := chn_at _ e hc i hi2
   refine ⟨g1.1, g1.2.1, g1.2.2, fun _ => ?_⟩
   have e1 : ((i + 1 : Nat) : Int) - 1 = (i : Int) := by omega
   rw [e1, rd16_at i (by omega)]
   have g3 := g2.1
   have g4 := g2.2
   have e2 : (e :: runF e r)[i + 1]'hi = (runF e r)[i]'hi2 := rfl
   rw [e2]
   unfold ltD at g3
   omega
/-- The demands of a kind. -/
def ofK (kd : Int) (l : List S81) : List S81 := l.filter (fun x => decide (x.f0 = kd))
theorem ofK_pos {kd : Int} {x : S81} (l : List S81) (h : x.f0 = kd) : ofK kd (x :: l) = x :: ofK kd l := by
 unfold ofK
 rw [List.filter_cons_of_pos (by simpa using h)]
theorem ofK_neg {kd : Int} {x : S81} (l : List S81) (h : ¬ x.f0 = kd) : ofK kd (x :: l) = ofK kd l := by
 unfold ofK
 rw [List.filter_cons_of_neg (by simpa using h)]
theorem distM_ofK (c kd : Int) : ∀ (l : List S81) (acc : Int), distM c kd l acc = distM c kd (ofK kd l) acc
 | [], acc => rfl
 | x :: l, acc => by
  by_cases h : x.f0 = kd
  ·rw [ofK_pos l h]
   simp only [distM, if_pos h]
   split
   ·rfl
   ·exact distM_ofK c kd l (-1)
  ·rw [ofK_neg l h]
   simp only [distM, if_neg h]
   exact distM_ofK c kd l acc
theorem ofK_ins_ne {kd : Int} {d : S81} (hd : ¬ d.f0 = kd) : ∀ l : List S81, ofK kd (insM d l) = ofK kd l
 | [] => by
  show ofK kd [d] = ofK kd []
  rw [ofK_neg [] hd]
 | x :: r => by
  unfold insM
  split
  ·by_cases h : x.f0 = kd
   ·rw [ofK_pos _ h, ofK_pos _ h, ofK_ins_ne hd r]
   ·rw [ofK_neg _ h, ofK_neg _ h, ofK_ins_ne hd r]
  ·split
   ·rename_i _ hk
    rw [ofK_neg _ (show ¬ (⟨x.f0, x.f1, mx x.f2 d.f2⟩ : S81).f0 = kd from fun e => hd (hk.1 ▸ e)), ofK_neg _ (fun e => hd (hk.1 ▸ e))]
   ·rw [ofK_neg _ hd]
theorem ofK_insAll_ne {kd : Int} : ∀ (s l : List S81), (∀ x ∈ s, ¬ x.f0 = kd) → ofK kd (insAll l s) = ofK kd l
 | [], l, _ => rfl
 | d :: s, l, h => by
  show ofK kd (insAll (insM d l) s) = _
  rw [ofK_insAll_ne s (insM d l) (fun x hx => h x (List.mem_cons_of_mem _ hx)), ofK_ins_ne (h d (List.mem_cons_self ..))]
theorem ofK_ins_eq {kd : Int} {d : S81} (hd : d.f0 = kd) : ∀ l : List S81, l.Pairwise ltD → ofK kd (insM d l) = insM d (ofK kd l)
 | [], _ => by
  show ofK kd [d] = insM d []
  rw [ofK_pos [] hd]
  rfl
 | x :: r, h => by
  obtain ⟨h1, h2⟩ := List.pairwise_cons.1 h
  by_cases c : ltD x d
  ·rw [show insM d (x :: r) = x :: insM d r by rw [insM, if_pos c]]
   by_cases hx : x.f0 = kd
   ·rw [ofK_pos _ hx, ofK_pos _ hx, ofK_ins_eq hd r h2]
    exact (show insM d (x :: ofK kd r) = x :: insM d (ofK kd r) by rw [insM, if_pos c]).symm
   ·rw [ofK_neg _ hx, ofK_neg _ hx, ofK_ins_eq hd r h2]
  ·by_cases k : x.f0 = d.f0 ∧ x.f1 = d.f1
   ·have hx : x.f0 = kd := k.1.trans hd
    rw [show insM d (x :: r) = (⟨x.f0, x.f1, mx x.f2 d.f2⟩ : S81) :: r by rw [insM, if_neg c, if_pos k], ofK_pos r (show (⟨x.f0, x.f1, mx x.f2 d.f2⟩ : S81).f0 = kd from hx), ofK_pos r hx]
    exact (show insM d (x :: ofK kd r) = (⟨x.f0, x.f1, mx x.f2 d.f2⟩ : S81) :: ofK kd r by rw [insM, if_neg c, if_pos k]).symm
   ·have hdx : ltD d x := by
     unfold ltD at *
     omega
    rw [show insM d (x :: r) = d :: x :: r by rw [insM, if_neg c, if_neg k], ofK_pos _ hd]
    refine (insM_front d _ (fun y hy => ?_)).symm
    have hy2 := (List.mem_filter.1 hy).1
    exact (List.mem_cons.1 hy2).elim (fun e => e ▸ hdx) (fun hy => ltD_trans hdx (h1 y hy))
theorem ofK_insAll {kd : Int} : ∀ (s l : List S81), l.Pairwise ltD → ofK kd (insAll l s) = insAll (ofK kd l) (ofK kd s)
 | [], l, _ => rfl
 | d :: s, l, h => by
  show ofK kd (insAll (insM d l) s) = _
  rw [ofK_insAll s (insM d l) (insM_srt d l h)]
  by_cases hd : d.f0 = kd
  ·rw [ofK_ins_eq hd l h, ofK_pos s hd]
   rfl
  ·rw [ofK_ins_ne hd l, ofK_neg s hd]
theorem runF_ofK {kd : Int} : ∀ (r : List S81) (e : S81), (ofK kd r).Pairwise (fun x y => x.f2 ≤ y.f2) → (e.f0 = kd → ∀ y ∈ ofK kd r, e.f2 ≤ y.f2) → ofK kd (runF e r) = ofK kd r
 | [], e, _, _ => rfl
 | x :: r, e, h, he => by
  unfold runF
  by_cases hx : x.f0 = kd
  ·rw [ofK_pos r hx] at h he
   obtain ⟨h1, h2⟩ := List.pairwise_cons.1 h
   have ih := runF_ofK r x h2 (fun _ => h1)
   by_cases c : e.f0 = x.f0
   ·have hm : mx x.f2 e.f2 = x.f2 := by
     have := he (c.trans hx) x (List.mem_cons_self ..)
     rw [mx_eq]
     omega
    have hxe : (⟨x.f0, x.f1, mx x.f2 e.f2⟩ : S81) = x := by rw [hm]
    rw [if_pos c, hxe, ofK_pos _ hx, ofK_pos _ hx, ih]
   ·rw [if_neg c, ofK_pos _ hx, ofK_pos _ hx, ih]
  ·rw [ofK_neg r hx] at h he
   by_cases c : e.f0 = x.f0
   ·rw [if_pos c, ofK_neg _ (show ¬ (⟨x.f0, x.f1, mx x.f2 e.f2⟩ : S81).f0 = kd from hx), ofK_neg _ hx, runF_ofK r (⟨x.f0, x.f1, mx x.f2 e.f2⟩ : S81) h (fun e1 => absurd e1 hx)]
   ·rw [if_neg c, ofK_neg _ hx, ofK_neg _ hx, runF_ofK r x h (fun e1 => absurd e1 hx)]
theorem runM_ofK {kd : Int} (l : List S81) (h : (ofK kd l).Pairwise (fun x y => x.f2 ≤ y.f2)) : ofK kd (runM l) = ofK kd l := by
 cases l with
 | nil => rfl
 | cons x r =>
  show ofK kd (x :: runF x r) = _
  by_cases hx : x.f0 = kd
  ·rw [ofK_pos r hx] at h
   obtain ⟨h1, h2⟩ := List.pairwise_cons.1 h
   rw [ofK_pos _ hx, ofK_pos _ hx, runF_ofK r x h2 (fun _ => h1)]
  ·rw [ofK_neg r hx] at h
   rw [ofK_neg _ hx, ofK_neg _ hx, runF_ofK r x h (fun e => absurd e hx)]
theorem ofK_q {kd : Int} {l : List S81} (h : l.Pairwise qD) : (ofK kd l).Pairwise (fun x y => x.f2 ≤ y.f2) := by
 unfold ofK
 rw [List.pairwise_filter]
 refine h.imp (fun {x y} hq px py => hq.2 ?_)
 have := of_decide_eq_true px
 have := of_decide_eq_true py
 omega
theorem merge_dist_a {a b : List S81} (ha : PTab a) (c kd : Int) (hb : ∀ x ∈ b, ¬ x.f0 = kd) : distM c kd (runM (insAll a b)) 0 = distM c kd a 0 := by
 have e := ofK_insAll_ne b a hb
 rw [distM_ofK, runM_ofK _ (by rw [e]; exact ofK_q (tab_q ha)), e, ← distM_ofK]
theorem merge_dist_b {a b : List S81} (ha : PTab a) (hb : PTab b) (c kd : Int) (hn : ∀ x ∈ a, ¬ x.f0 = kd) : distM c kd (runM (insAll a b)) 0 = distM c kd b 0 := by
 have hsa : a.Pairwise ltD := (tab_q ha).imp (fun h => h.1)
 have hsb : b.Pairwise ltD := (tab_q hb).imp (fun h => h.1)
 have e0 : ofK kd a = [] := by
  unfold ofK
  rw [List.filter_eq_nil_iff]
  intro x hx
  simpa using hn x hx
 have e : ofK kd (insAll a b) = ofK kd b := by
  rw [ofK_insAll b a hsa, e0, insAll_self (ofK kd b) [] (by
   rw [List.nil_append]
   exact List.Pairwise.sublist (List.filter_sublist) hsb)]
  rfl
 rw [distM_ofK, runM_ofK _ (by rw [e]; exact ofK_q (tab_q hb)), e, ← distM_ofK]
theorem impl_distfor {t : List S81} (h : PTab t) {c kd : Int} (c1 : 20 ≤ c ∧ c ≤ 300) (c2 : 0 ≤ kd ∧ kd ≤ 3) : Ev (fun k => impl_DistanceFor.f k t c kd) (if distM c kd t 0 < 0 then (0, 5) else (distM c kd t 0, 0)) := by
 have hl := h.1
 unfold impl_DistanceFor.f
 refine Ev.bind (Ev_eq (impl_IsTable_ev t (by omega)) (tt_pos h)) ?_
 simp only [if_true, impl_isCalibre_eq, impl_isKind_eq, Option.bind_some, decide_eq_true_eq, if_pos c1, decide_eq_true c2, Bool.not_true]
 refine Ev_shift ?_
 simp only [impl_DistanceFor.j0, Bool.false_eq_true, if_false]
 refine Ev.bind (impl_dist t (by omega) c kd) ?_
 split <;> exact Ev.now _
theorem hasKind_l0 (l : List S81) (hn : l.length ≤ 1000000) (x : Int) : ∀ (s : List S81) (i : Int), 0 ≤ i → l.drop i.toNat = s → Ev (fun k => laws_hasKind.l0 k l x i) (decide (x ∈ s.map (·.f0)))
 | [], i, h0, h => by
  refine Ev_shift ?_
  simp only [laws_hasKind.l0, if_neg (drop_nil h0 h)]
  exact Ev_some (by simp)
 | a :: s, i, h0, h => by
  refine Ev_shift ?_
  obtain ⟨h1, h2, h3⟩ := drop_cons z81 h0 h
  have h2' : rd_T81 l i = a := h2
  by_cases e : a.f0 = x
  ·simp only [laws_hasKind.l0, if_pos h1, if_pos h0, h2', if_pos e]
   exact Ev_some (by simp [e])
  ·simp only [laws_hasKind.l0, if_pos h1, if_pos h0, h2', if_neg e, w64 (n := i + 1) (by omega)]
   refine Ev_eq (hasKind_l0 l hn x s (i + 1) (by omega) h3) ?_
   have : ¬ x = a.f0 := fun e1 => e e1.symm
   simp only [List.map_cons, List.mem_cons, this, false_or]
theorem hasKind_dec (l : List S81) (hn : l.length ≤ 1000000) (x : Int) : Ev (fun k => laws_hasKind.f k l x) (decide (x ∈ l.map (·.f0))) := by
 unfold laws_hasKind.f
 exact hasKind_l0 l hn x l 0 (by omega) rfl
theorem likeDemands_l0 (l : List S81) (hl : l.length ≤ 10000000) : ∀ (d : Nat) (i : Int), 0 ≤ i → i + d = l.length → Ev (fun k => laws_likeDemands.l0 k l l i) true
 | 0, i, h0, hd => by
  refine Ev_shift ?_
  simp only [laws_likeDemands.l0, if_neg (show ¬ i < (l.length : Int) by omega)]
  exact Ev.now _
 | d + 1, i, h0, hd => by
  refine Ev_shift ?_
  simp only [laws_likeDemands.l0, if_pos (show i < (l.length : Int) by omega), if_pos h0, beq_self_eq_true, Bool.not_true, Bool.or_self, Bool.false_eq_true, if_false, w64 (n := i + 1) (by omega)]
  exact likeDemands_l0 l hl d (i + 1) (by omega) (by omega)
theorem likeDemands_self (l : List S81) (hl : l.length ≤ 10000000) : Ev (fun k => laws_likeDemands.f k l l) true := by
 unfold laws_likeDemands.f
 simp only [if_true]
 exact likeDemands_l0 l hl l.length 0 (by omega) (by omega)
theorem drawMerge_ev (c : List Int) (hc : c.length ≤ 4096) (hb : ∀ x ∈ c, 0 ≤ x ∧ x ≤ 255) : ∃ a b : List S81, Ev (fun k => spec_DrawMergeTables.f k c) (a, b) ∧ a.length ≤ 30 ∧ b.length ≤ 30 := by
 obtain ⟨s, e0, h0⟩ := from_ev c hc hb
 obtain ⟨a, a1, s1, e1, h1, ha⟩ := draw16_ev h0
 obtain ⟨b, a2, s2, e2, h2, hb⟩ := draw16_ev h1
 refine ⟨a, b, ?_, ha, hb⟩
 unfold spec_DrawMergeTables.f
 exact Ev.bind e0 (Ev.bind e1 (Ev.bind e2 (Ev.now _)))
theorem drawWiden_ev (c : List Int) (hc : c.length ≤ 4096) (hb : ∀ x ∈ c, 0 ≤ x ∧ x ≤ 255) : ∃ (t : List S81) (p : Int), Ev (fun k => spec_DrawWidenTable.f k c) (t, p) ∧ t.length ≤ 30 := by
 obtain ⟨s, e0, h0⟩ := from_ev c hc hb
 obtain ⟨t, a1, s1, e1, h1, ht⟩ := draw16_ev h0
 have jf : ∀ a s, Src c a s → ∃ p, Ev (fun k => spec_DrawWidenTable.j0 k t false c a s) (t, p) := fun a s h => by
  obtain ⟨v3, a3, s3, e3, h3, _, _⟩ := next_some h 101 (by omega)
  obtain ⟨v4, a4, s4, e4, h4, _⟩ := pick_some h3 [v3, 0, 100, 101, (-1), 10] (by simp) (by simp)
  refine ⟨v4, Ev_shift ?_⟩
  simp only [spec_DrawWidenTable.j0, Bool.false_eq_true, if_false, e3, e4, Option.bind_some]
  exact Ev.now _
 unfold spec_DrawWidenTable.f
 by_cases g : (t.length : Int) > 0
 ·obtain ⟨v2, a2, s2, e2, h2, _, _⟩ := next_some h1 12 (by omega)
  have hj : ∃ t2 p, Ev (fun k => spec_DrawWidenTable.j0 k t (v2 == 0) c a2 s2) (t2, p) ∧ t2.length ≤ 30 := by
   by_cases z : v2 = 0
   ·obtain ⟨v3, a3, s3, e3, h3, _, _⟩ := next_some h2 5001 (by omega)
    obtain ⟨v4, a4, s4, e4, h4, _, _⟩ := next_some h3 101 (by omega)
    obtain ⟨v5, a5, s5, e5, h5, _⟩ := pick_some h4 [v4, 0, 100, 101, (-1), 10] (by simp) (by simp)
    refine ⟨t.set ((t.length : Int) - 1).toNat (⟨(rd_T81 t ((t.length : Int) - 1)).f0, (rd_T81 t ((t.length : Int) - 1)).f1, wrap64 (5000 + v3)⟩ : S81), v5, Ev_shift ?_, ?_⟩
    ·simp only [spec_DrawWidenTable.j0, z, beq_self_eq_true, if_true, e3, e4, e5, Option.bind_some, w64 (n := (t.length : Int) - 1) (by omega), if_pos (show 0 ≤ (t.length : Int) - 1 by omega), if_pos (show (t.length : Int) - 1 < (t.length : Int) by omega)]
     exact Ev.now _
    ·rw [List.length_set]
     exact ht
   ·obtain ⟨p, hp⟩ := jf a2 s2 h2
    rw [beq_eq_false_iff_ne.2 z]
    exact ⟨t, p, hp, ht⟩
  obtain ⟨t2, p, hp, hl⟩ := hj
  refine ⟨t2, p, Ev.bind e0 (Ev.bind e1 ?_), hl⟩
  simp only [if_pos g, e2, Option.bind_some]
  exact hp
 ·obtain ⟨p, hp⟩ := jf a1 s1 h1
  refine ⟨t, p, Ev.bind e0 (Ev.bind e1 ?_), ht⟩
  simp only [if_neg g]
  exact hp
theorem drawPlaces_l0 (c : List Int) (t : List S81) (l : List S83) (p : Int) : ∀ (d : Nat) (xs ys : List Int) (a s : Int), Src c a s → xs.length + d ≤ 1000 → ys.length + d ≤ 1000 → ∃ xs' ys', Ev (fun k => spec_DrawAllowedPlaces.l0 k t l p xs ys d c a s) (t, l, p, xs', ys') ∧ xs'.length ≤ 2000 ∧ ys'.length ≤ 2000
 | 0, xs, ys, a, s, h, hx, hy => by
  obtain ⟨v1, a1, s1, e1, h1, _, _⟩ := next_some h 24 (by omega)
  by_cases c0 : v1 = 0
  ·refine ⟨xs ++ [5], ys, Ev_shift ?_, by simp; omega, by omega⟩
   simp only [spec_DrawAllowedPlaces.l0, if_neg (show ¬ ((0 : Nat) : Int) > 0 by omega), e1, Option.bind_some, if_pos c0, if_pos (show xs.length < 17592186044416 by omega)]
   exact Ev.now _
  ·by_cases c1 : v1 = 1
   ·obtain ⟨v2, a2, s2, e2, h2, p2, q2⟩ := next_some h1 2 (by omega)
    refine ⟨List.replicate (60 + v2).toNat 0, List.replicate (60 + v2).toNat 0, Ev_shift ?_, by rw [List.length_replicate]; omega, by rw [List.length_replicate]; omega⟩
    simp only [spec_DrawAllowedPlaces.l0, if_neg (show ¬ ((0 : Nat) : Int) > 0 by omega), e1, e2, Option.bind_some, if_neg c0, if_pos c1, w64 (n := 60 + v2) (by omega), if_pos (show 0 ≤ 60 + v2 by omega), if_pos (show (60 + v2).toNat ≤ 35184372088832 by omega), List.length_replicate, Int.toNat_natCast, if_pos (show (0 : Int) ≤ ((60 + v2).toNat : Int) by omega)]
    exact Ev.now _
   ·refine ⟨xs, ys, Ev_shift ?_, by omega, by omega⟩
    simp only [spec_DrawAllowedPlaces.l0, if_neg (show ¬ ((0 : Nat) : Int) > 0 by omega), e1, Option.bind_some, if_neg c0, if_neg c1]
    exact Ev.now _
 | d + 1, xs, ys, a, s, h, hx, hy => by
  obtain ⟨x, y, a1, s1, e1, h1⟩ := at15_some h
  obtain ⟨xs', ys', e, g1, g2⟩ := drawPlaces_l0 c t l p d (xs ++ [x]) (ys ++ [y]) a1 s1 h1 (by simp; omega) (by simp; omega)
  refine ⟨xs', ys', Ev_shift ?_, g1, g2⟩
  simp only [spec_DrawAllowedPlaces.l0, if_pos (show ((d + 1 : Nat) : Int) > 0 by omega), e1, Option.bind_some, if_pos (show xs.length < 17592186044416 by omega), if_pos (show ys.length < 17592186044416 by omega), show ((d + 1 : Nat) : Int) - 1 = (d : Int) by omega, w64 (n := (d : Int)) (by omega)]
  exact e
theorem drawPlaces_ev (c : List Int) (hc : c.length ≤ 4096) (hb : ∀ x ∈ c, 0 ≤ x ∧ x ≤ 255) : ∃ (t : List S81) (l : List S83) (p : Int) (xs ys : List Int), Ev (fun k => spec_DrawAllowedPlaces.f k c) (t, l, p, xs, ys) ∧ t.length ≤ 30 ∧ l.length ≤ 30 ∧ xs.length ≤ 2000 ∧ ys.length ≤ 2000 := by
 obtain ⟨s, e0, h0⟩ := from_ev c hc hb
 obtain ⟨t, l, p, x, y, e1, ht, hl⟩ := drawAllowed_ev c hc hb
 obtain ⟨v, a1, s1, e2, h2, v0, v1⟩ := next_some h0 8 (by omega)
 obtain ⟨xs, ys, e3, g1, g2⟩ := drawPlaces_l0 c t l p v.toNat [] [] a1 s1 h2 (by simp; omega) (by simp; omega)
 refine ⟨t, l, p, xs, ys, ?_, ht, hl, g1, g2⟩
 unfold spec_DrawAllowedPlaces.f
 refine Ev.bind e0 (Ev.bind e1 ?_)
 simp only [e2, Option.bind_some]
 rw [Int.toNat_of_nonneg v0] at e3
 exact e3
theorem dice_at (c : List Int) (hc : c.length ≤ 4096) (hb : ∀ x ∈ c, 0 ≤ x ∧ x ≤ 255) (a s : Int) (h0 : 0 ≤ a) {n : Int} (hn : 1 ≤ n ∧ n ≤ 1000000) : ∃ v a' s', laws_dice_below.f c a s n = some (v, a', s') ∧ 0 ≤ v ∧ v < n ∧ 0 ≤ a' := by
 unfold laws_dice_below.f
 have hx := and24 ((IntKind.u64.wrap ((IntKind.u64.wrap (s * 6364136223846793005)) + 1442695040888963407)) / 8589934592)
 generalize Go.bits .and .u64 ((IntKind.u64.wrap ((IntKind.u64.wrap (s * 6364136223846793005)) + 1442695040888963407)) / 8589934592) 16777215 = x at hx ⊢
 by_cases h : a < (c.length : Int)
 ·have hr := hb (rd c a) (rd_mem h0 h)
  simp only [if_pos h, if_pos h0, if_neg (show ¬ n = 0 by omega), w64 (n := x) (by omega), w64 (n := rd c a) (by omega), w64 (n := x + rd c a) (by omega), w64 (n := a + 1) (by omega)]
  exact ⟨_, _, _, rfl, Int.tmod_nonneg _ (by omega), Int.tmod_lt_of_pos _ (by omega), by omega⟩
 ·simp only [if_neg h, if_neg (show ¬ n = 0 by omega), w64 (n := x) (by omega)]
  exact ⟨_, _, _, rfl, Int.tmod_nonneg _ (by omega), Int.tmod_lt_of_pos _ (by omega), h0⟩
theorem allow_impl {m0 : List S81} {m1 : List S83} {a2 a3 a4 : Int} (h : PTab m0) (h2 : PSite m1) (hn0 : m0.length ≤ 1000000) (hn1 : m1.length ≤ 1000000) (c1 : PPlace a3 a4) (c2 : 20 ≤ a2 ∧ a2 ≤ 300) : Ev (fun k => impl_IsAllowed.f k m0 m1 a2 a3 a4) (decide (((agF m0 m1 a2 a3 a4).length : Int) = 0), 0) := by
 have ht := impl_IsTable_ev m0 (by omega)
 have hi := impl_IsSite_ev m1 (by omega)
 unfold impl_IsAllowed.f
 refine Ev.bind ht ?_
 simp only [tt_pos h, if_true]
 refine Ev.bind hi ?_
 simp only [decide_eq_true h2, Bool.not_true]
 refine Ev_shift ?_
 simp only [impl_IsAllowed.j0, Bool.false_eq_true, if_false, impl_isCalibre_eq, impl_place_eq, Option.bind_some, decide_eq_true c1, decide_eq_true c2, if_true]
 refine Ev.bind (impl_allowed h h2 c1 a2) ?_
 exact Ev_some rfl
theorem tables_l1 {t : List S81} (h : PTab t) {pc : Int} (hp : 0 ≤ pc ∧ pc ≤ 100) (hb : ∀ d ∈ t, (wd16 pc d).f2 ≤ 10000) : ∀ (d : Nat) (i : Int), 0 ≤ i → i + d = t.length → Ev (fun k => laws_FnTables.l1 k t (t.map (wd16 pc)) 0 i) true
 | 0, i, h0, hd => by
  have hl := h.1
  refine Ev_shift ?_
  simp only [laws_FnTables.l1, if_true, List.length_map, decide_eq_false (show ¬ i < (t.length : Int) by omega)]
  refine Ev_shift ?_
  simp only [laws_FnTables.j5, Bool.false_eq_true, if_false, if_true]
  exact Ev.bind (Ev_eq (impl_IsTable_ev _ (by rw [List.length_map]; omega)) (tt_pos (wid_tab hp h hb))) (Ev.now _)
 | d + 1, i, h0, hd => by
  have hl := h.1
  have hi : i < t.length := by omega
  have hf := (h.2 i h0 hi).2.2.1.1
  have hm := Int.mul_nonneg hf hp.1
  have e2 : ¬ (wd16 pc (rd_T81 t i)).f2 < (rd_T81 t i).f2 := by
   show ¬ (rd_T81 t i).f2 + ((rd_T81 t i).f2 * pc + 99) / 100 < (rd_T81 t i).f2
   omega
  refine Ev_shift ?_
  simp only [laws_FnTables.l1, if_true, List.length_map, decide_eq_true hi]
  refine Ev_shift ?_
  simp only [laws_FnTables.j5, if_true, if_pos h0, List.length_map, if_pos hi, rd16_map pc t i h0 hi, if_neg e2, if_pos (show (wd16 pc (rd_T81 t i)).f0 = (rd_T81 t i).f0 from rfl), if_pos (show (wd16 pc (rd_T81 t i)).f1 = (rd_T81 t i).f1 from rfl), w64 (n := i + 1) (by omega)]
  exact tables_l1 h hp hb d (i + 1) (by omega) (by omega)
theorem tables_j3 {t w : List S81} {wc : Int} (h : wc = 0 → ∃ pc, (0 ≤ pc ∧ pc ≤ 100) ∧ PTab t ∧ (∀ d ∈ t, (wd16 pc d).f2 ≤ 10000) ∧ w = t.map (wd16 pc)) : Ev (fun k => laws_FnTables.j3 k t w wc) true := by
 refine Ev_shift ?_
 simp only [laws_FnTables.j3]
 by_cases c : wc = 0
 ·obtain ⟨pc, hp, ht, hb, e⟩ := h c
  rw [c, e]
  exact tables_l1 ht hp hb t.length 0 (by omega) (by omega)
 ·refine Ev_shift ?_
  simp only [laws_FnTables.l1, if_neg c]
  refine Ev_shift ?_
  simp only [laws_FnTables.j5, Bool.false_eq_true, if_false, if_neg c]
  exact Ev.now _
theorem tables_tail (c : List Int) (hc : c.length ≤ 4096) (hcb : ∀ x ∈ c, 0 ≤ x ∧ x ≤ 255) {t w : List S81} {wc : Int} (h : wc = 0 → ∃ pc, (0 ≤ pc ∧ pc ≤ 100) ∧ PTab t ∧ (∀ d ∈ t, (wd16 pc d).f2 ≤ 10000) ∧ w = t.map (wd16 pc)) {a b m : List S81} {mc : Int} (hm : mc = 0 → PTab a ∧ PTab b ∧ (insAll a b).length ≤ 12 ∧ m = runM (insAll a b)) (t2 : List S81) (l2 : List S83) (p : Int) (xs ys q : List Int) (qc i : Int) :
  Ev (fun k => laws_FnTables.j2 k c t w wc a b m mc t2 l2 p xs ys q qc i false) true := by
 have hj := tables_j3 h
 refine Ev_shift ?_
 simp only [laws_FnTables.j2, Bool.false_eq_true, if_false]
 by_cases c0 : mc = 0
 ·obtain ⟨ha, hb, hl, em⟩ := hm c0
  have hmt := merge_tab ha hb hl
  rw [← em] at hmt
  obtain ⟨s, er⟩ := roll_ev c hc 1601
  obtain ⟨v1, a1, s1, e1, p1, q1, z1⟩ := dice_at c hc hcb 0 s (by omega) (n := 281) (by omega)
  obtain ⟨v2, a2, s2, e2, p2, q2, _⟩ := dice_at c hc hcb a1 s1 z1 (n := 4) (by omega)
  have l1 := ha.1
  have l2 := hb.1
  have dm := impl_distfor hmt (c := 20 + v1) (kd := v2) (by omega) (by omega)
  have da := impl_distfor ha (c := 20 + v1) (kd := v2) (by omega) (by omega)
  have db := impl_distfor hb (c := 20 + v1) (kd := v2) (by omega) (by omega)
  have hn : ∀ l : List S81, ¬ v2 ∈ l.map (·.f0) → ∀ x ∈ l, ¬ x.f0 = v2 := fun l hl x hx e => hl (List.mem_map.2 ⟨x, hx, e⟩)
  have hka := hasKind_dec a (by omega) v2
  have hkb := hasKind_dec b (by omega) v2
  simp only [if_pos c0]
  refine Ev.bind er ?_
  simp only [e1, e2, Option.bind_some, w64 (n := 20 + v1) (by omega)]
  refine Ev.bind dm (Ev.bind da (Ev.bind db (Ev.bind (Ev_eq (impl_IsTable_ev m (by have := hmt.1; omega)) (tt_pos hmt)) ?_)))
  simp only [if_true]
  have stepa : Ev (fun k => (laws_hasKind.f k a v2).bind fun t753 => (if t753 = true then (laws_FnTables.j3 k t w wc) else (if (if distM (20 + v1) v2 m 0 < 0 then ((0 : Int), (5 : Int)) else (distM (20 + v1) v2 m 0, 0)).2 = (if distM (20 + v1) v2 b 0 < 0 then ((0 : Int), (5 : Int)) else (distM (20 + v1) v2 b 0, 0)).2 then (if (if distM (20 + v1) v2 b 0 < 0 then ((0 : Int), (5 : Int)) else (distM (20 + v1) v2 b 0, 0)).1 = (if distM (20 + v1) v2 m 0 < 0 then ((0 : Int), (5 : Int)) else (distM (20 + v1) v2 m 0, 0)).1 then (laws_FnTables.j3 k t w wc) else (some false)) else (some false)))) true := by
   refine Ev.bind hka ?_
   by_cases g : v2 ∈ a.map (·.f0)
   ·simp only [decide_eq_true g, if_true]
    exact hj
   ·have e : distM (20 + v1) v2 m 0 = distM (20 + v1) v2 b 0 := by
     rw [em]
     exact merge_dist_b ha hb _ _ (hn a g)
    simp only [decide_eq_false g, Bool.false_eq_true, if_false, e, if_true]
    exact hj
  refine Ev.bind hkb ?_
  by_cases g : v2 ∈ b.map (·.f0)
  ·simp only [decide_eq_true g, if_true]
   exact stepa
  ·have e : distM (20 + v1) v2 m 0 = distM (20 + v1) v2 a 0 := by
    rw [em]
    exact merge_dist_a ha _ _ (hn b g)
   rw [e] at stepa
   simp only [decide_eq_false g, Bool.false_eq_true, if_false, e, if_true]
   exact stepa
 ·simp only [if_neg c0]
  exact hj
theorem tables_l0 (c : List Int) {t w : List S81} {wc : Int} {a b m : List S81} {mc : Int} {t2 : List S81} {l2 : List S83} {p : Int} {xs ys q : List Int} (hT : ∀ i, Ev (fun k => laws_FnTables.j2 k c t w wc a b m mc t2 l2 p xs ys q 0 i false) true)
  (h1 : PTab t2) (h2 : PSite l2) (h3 : 20 ≤ p ∧ p ≤ 300) (h4 : (xs.length : Int) = ys.length) (h5 : xs.length ≤ 60) (h6 : plP xs ys) (h7 : q = plF t2 l2 p xs ys) (h8 : q.length ≤ 1000000) (n1 : t2.length ≤ 1000000) (n2 : l2.length ≤ 1000000) : ∀ (d : Nat) (i : Int), 0 ≤ i → i + d = xs.length → Ev (fun k => laws_FnTables.l0 k c t w wc a b m mc t2 l2 p xs ys q 0 i) true
 | 0, i, i0, hd => by
  refine Ev_shift ?_
  simp only [laws_FnTables.l0, if_true, decide_eq_false (show ¬ i < (xs.length : Int) by omega)]
  exact hT i
 | d + 1, i, i0, hd => by
  have hi : i < (xs.length : Int) := by omega
  have gi := allow_impl h1 h2 n1 n2 (h6 i i0 hi) h3
  have em : decide (i ∈ q) = decide (((agF t2 l2 p (rd xs i) (rd ys i)).length : Int) = 0) := by
   rw [h7]
   unfold plF
   refine decide_eq_decide.2 ?_
   rw [idxF_mem]
   constructor
   ·rintro ⟨_, _, h⟩
    exact of_decide_eq_true h
   ·intro h
    exact ⟨i0, by omega, decide_eq_true h⟩
  refine Ev_shift ?_
  simp only [laws_FnTables.l0, if_true, decide_eq_true hi]
  refine Ev_shift ?_
  simp only [laws_FnTables.j2, if_true, if_pos i0, if_pos hi, if_pos (show i < (ys.length : Int) by omega)]
  refine Ev.bind gi ?_
  simp only [if_true]
  refine Ev.bind (Ev_eq (hasInt_dec q h8 i) em) ?_
  simp only [bne_self_eq_false, Bool.false_eq_true, if_false, w64 (n := i + 1) (by omega)]
  exact tables_l0 c hT h1 h2 h3 h4 h5 h6 h7 h8 n1 n2 d (i + 1) (by omega) (by omega)
theorem FnTables : laws_FnTables.Pure := by
 intro c _ _ hw
 have hb := u8_rng hw
 by_cases big : (c.length : Int) > 4096
 ·refine ⟨0, ?_⟩
  unfold laws_FnTables.f laws_big.f
  simp only [Option.bind_some, decide_eq_true big, if_true]
 ·refine Ev.rounds ?_
  obtain ⟨t, pc, et, nt⟩ := drawWiden_ev c (by omega) hb
  obtain ⟨⟨w, wc⟩, ws, wi, wl, wv⟩ := wid_val t pc (by omega)
  obtain ⟨a, b, eab, na, nb⟩ := drawMerge_ev c (by omega) hb
  have hmg : ∃ m : List S81 × Int, Ev (fun k => spec_MergeTables.f k a b) m ∧ Ev (fun k => impl_MergeTables.f k a b) m ∧ m.1.length ≤ 12 ∧ (m.2 = 0 → PTab a ∧ PTab b ∧ (insAll a b).length ≤ 12 ∧ m.1 = runM (insAll a b)) := by
   by_cases h : PTab a ∧ PTab b
   ·refine ⟨_, spec_merge_pos h.1 h.2, impl_merge_pos h.1 h.2, mergeR_length _, fun e => ⟨h.1, h.2, ?_⟩⟩
    unfold mergeR at e ⊢
    by_cases g : (insAll a b).length > 12
    ·rw [if_pos g] at e
     cases e
    ·rw [if_neg g]
     exact ⟨by omega, rfl⟩
   ·obtain ⟨h1, h2⟩ := merge_neg (by omega) (by omega) h
    exact ⟨_, h1, h2, by simp, fun e => absurd e (by decide)⟩
  obtain ⟨⟨m, mc⟩, ms, mi, ml, mv⟩ := hmg
  obtain ⟨t2, l2, p, xs, ys, ep, n1, n2, n3, n4⟩ := drawPlaces_ev c (by omega) hb
  obtain ⟨⟨q, qc⟩, qs, qi, ql, qv⟩ := places_ev t2 (by omega) l2 (by omega) p xs ys (by omega) (by omega)
  simp only at wl ml ql qv mv wv
  have hW : wc = 0 → ∃ pc, (0 ≤ pc ∧ pc ≤ 100) ∧ PTab t ∧ (∀ d ∈ t, (wd16 pc d).f2 ≤ 10000) ∧ w = t.map (wd16 pc) := fun e => by
   rcases wv with ⟨h1, h2, h3⟩ | ⟨_, h2⟩ | ⟨_, h2⟩
   ·rcases widM_val pc t [] with g | ⟨g, g2⟩
    ·rw [g] at h3
     have := congrArg (fun z => z.2) h3
     simp only at this
     omega
    ·rw [g, List.nil_append] at h3
     exact ⟨pc, h2, h1, g2, congrArg (fun z => z.1) h3⟩
   ·omega
   ·omega
  have hcode : tt (PTab t) = (wc != 1) := by
   rcases wv with ⟨h1, h2, h3⟩ | ⟨h1, h2⟩ | ⟨h1, h2⟩
   ·rw [tt_pos h1]
    rcases widM_val pc t [] with g | ⟨g, _⟩
    ·rw [g] at h3
     have := congrArg (fun z => z.2) h3
     simp only at this
     rw [this]
     rfl
    ·rw [g] at h3
     have := congrArg (fun z => z.2) h3
     simp only at this
     rw [this]
     rfl
   ·rw [tt_pos h1, h2]
    rfl
   ·rw [tt_neg h1, h2]
    rfl
  have hT := fun i => tables_tail c (by omega) hb hW mv t2 l2 p xs ys q qc i
  have hL : Ev (fun k => laws_FnTables.l0 k c t w wc a b m mc t2 l2 p xs ys q qc 0) true := by
   by_cases c0 : qc = 0
   ·obtain ⟨h1, h2, h3, h4, h5, h6, h7⟩ := qv c0
    rw [c0] at hT ⊢
    exact tables_l0 c hT h1 h2 h3 h4 h5 h6 h7 ql (by omega) (by omega) xs.length 0 (by omega) (by omega)
   ·refine Ev_shift ?_
    simp only [laws_FnTables.l0, if_neg c0]
    exact hT 0
  unfold laws_FnTables.f laws_big.f
  simp only [Option.bind_some, decide_eq_false big, Bool.false_eq_true, if_false]
  refine Ev.bind et (Ev.bind wi (Ev.bind ws (Ev.bind eab (Ev.bind mi (Ev.bind ms (Ev.bind ep (Ev.bind qi (Ev.bind qs ?_))))))))
  simp only [if_true]
  refine Ev.bind (likeDemands_self w (by omega)) ?_
  simp only [if_true]
  refine Ev.bind (likeDemands_self m (by omega)) ?_
  simp only [if_true]
  refine Ev.bind (likeInts_self q (by omega)) ?_
  simp only [if_true]
  refine Ev.bind (Ev_eq (impl_IsTable_ev t (by omega)) hcode) ?_
  simp only [bne_self_eq_false]
  refine Ev_shift ?_
  simp only [laws_FnTables.j0, Bool.false_eq_true, if_false]
  exact hL
end Go.Proofs.Ytedcdhnbceaaeaa.Pure
