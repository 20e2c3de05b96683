/- The plain law of FnExactMostIgniters: what the printed functions compute, without Go and memory. No condition but the bounds that stand in it. -/
import Derived.Test.YtfplnebeojdgcaaPFnExactMostIgnitersx0
import Derived.Test.YtfplnebeojdgcaaPFnExactMostIgnitersx1
import Derived.Test.YtfplnebeojdgcaaOpen
namespace Go.Proofs.Ytfplnebeojdgcaa.Pure
open Go.RowKit Go.Proofs.Ytfplnebeojdgcaa.PFnExactMostIgniters Go.Proofs.YtfplnebeojdgcaaW.PrintWords Go.Proofs.YtfplnebeojdgcaaW.PrintLast Go.Proofs.Ytfplnebeojdgcaa.Opening
set_option linter.unusedVariables false
set_option linter.unusedSimpArgs false
theorem w64 {n : Int} (h : -9223372036854775808 ≤ n ∧ n ≤ 9223372036854775807) : wrap64 n = n := by
  unfold wrap64
  omega
theorem l01In_eq (a b c : Int) : spec_l01In.f a b c = some (decide (b ≤ a ∧ a ≤ c)) := by
  unfold spec_l01In.f
  by_cases h : b ≤ a <;> simp [h]
theorem within_eq (a b c : Int) : impl_within.f a b c = some (decide (b ≤ a ∧ a ≤ c)) := by
  unfold impl_within.f
  by_cases h : b ≤ a <;> simp [h]
/-- Enough current with m igniters. -/
def MiP (lead r v c m : Int) : Prop := c ≤ (1000000 * v) / (lead + m * r)
instance (lead r v c m : Int) : Decidable (MiP lead r v c m) := by unfold MiP; infer_instance
theorem mi_anti {lead r v c m m' : Int} (hl : 0 ≤ lead) (hr : 1 ≤ r) (hc : 0 ≤ c) (hm : 1 ≤ m) (hmm : m ≤ m') (h : MiP lead r v c m') : MiP lead r v c m := by
  unfold MiP at *
  have h1 : m * r ≤ m' * r := Int.mul_le_mul_of_nonneg_right hmm (by omega)
  have h0 : 1 * r ≤ m * r := Int.mul_le_mul_of_nonneg_right hm (by omega)
  rw [Int.le_ediv_iff_mul_le (by omega)] at *
  exact Int.le_trans (Int.mul_le_mul_of_nonneg_left (by omega) hc) h
theorem mi_step {lead r v m : Int} (hl : 0 ≤ lead ∧ lead ≤ 100000) (hr : 1 ≤ r ∧ r ≤ 100000) (hv : 0 ≤ v ∧ v ≤ 1000) (hm : 1 ≤ m ∧ m ≤ 10) :
    wrap64 (lead + wrap64 (m * r)) = lead + m * r ∧ lead + m * r ≠ 0 ∧ wrap64 (Int.tdiv (wrap64 (1000000 * v)) (lead + m * r)) = (1000000 * v) / (lead + m * r) := by
  have h1 : m * r ≤ 10 * r := Int.mul_le_mul_of_nonneg_right hm.2 (by omega)
  have h0 : 1 * r ≤ m * r := Int.mul_le_mul_of_nonneg_right hm.1 (by omega)
  rw [w64 (n := m * r) (by omega), w64 (n := lead + m * r) (by omega), w64 (n := 1000000 * v) (by omega), Int.tdiv_eq_ediv_of_nonneg (by omega)]
  refine ⟨rfl, by omega, w64 ⟨?_, ?_⟩⟩
  · have := Int.ediv_nonneg (show 0 ≤ 1000000 * v by omega) (show 0 ≤ lead + m * r by omega)
    omega
  · have := Int.ediv_le_self (lead + m * r) (show 0 ≤ 1000000 * v by omega)
    omega
theorem mi_spec {lead r v c : Int} (hl : 0 ≤ lead ∧ lead ≤ 100000) (hr : 1 ≤ r ∧ r ≤ 100000) (hv : 0 ≤ v ∧ v ≤ 1000) (d : Nat) : ∀ (k : Nat) (n : Int), 0 ≤ n → n + d = 10 → d < k → (∀ m, 1 ≤ m → m ≤ n → MiP lead r v c m) →
    ∃ N, 0 ≤ N ∧ N ≤ 10 ∧ spec_MostIgniters.l0 k lead r v c n = some (if N = 0 then (0, 4) else (N, 0)) ∧ (∀ m, 1 ≤ m → m ≤ N → MiP lead r v c m) ∧ (N < 10 → ¬ MiP lead r v c (N + 1)) := by
  induction d with
  | zero =>
    intro k n h0 hd hk hP
    obtain ⟨k, rfl⟩ : ∃ m, k = m + 1 := ⟨k - 1, by omega⟩
    refine ⟨n, h0, by omega, ?_, hP, fun h => by omega⟩
    simp only [spec_MostIgniters.l0]
    rw [if_neg (by omega)]
    split <;> rfl
  | succ d ih =>
    intro k n h0 hd hk hP
    obtain ⟨k, rfl⟩ : ∃ m, k = m + 1 := ⟨k - 1, by omega⟩
    obtain ⟨e1, e2, e3⟩ := mi_step hl hr hv (m := n + 1) (by omega)
    by_cases hp : MiP lead r v c (n + 1)
    · obtain ⟨N, a, b, e, f, g⟩ := ih k (n + 1) (by omega) (by omega) (by omega) (fun m h1 h2 => by
        by_cases hm : m = n + 1
        · rw [hm]; exact hp
        · exact hP m h1 (by omega))
      refine ⟨N, a, b, ?_, f, g⟩
      simp only [spec_MostIgniters.l0]
      rw [if_pos (by omega), w64 (n := n + 1) (by omega), e1, if_neg e2, e3, if_pos (show 1000000 * v / (lead + (n + 1) * r) ≥ c from hp)]
      exact e
    · refine ⟨n, h0, by omega, ?_, hP, fun _ => hp⟩
      simp only [spec_MostIgniters.l0]
      rw [if_pos (by omega), w64 (n := n + 1) (by omega), e1, if_neg e2, e3, if_neg (show ¬ 1000000 * v / (lead + (n + 1) * r) ≥ c from hp)]
      split <;> rfl
theorem mi_impl {lead r v c : Int} (hl : 0 ≤ lead ∧ lead ≤ 100000) (hr : 1 ≤ r ∧ r ≤ 100000) (hv : 0 ≤ v ∧ v ≤ 1000) (d : Nat) : ∀ (k : Nat) (n : Int), n = d → n ≤ 10 → d < k → (∀ m, n < m → m ≤ 10 → ¬ MiP lead r v c m) →
    ∃ N, 0 ≤ N ∧ N ≤ 10 ∧ impl_MostIgniters.l0 k lead r v c n = some (if N = 0 then (0, 4) else (N, 0)) ∧ (0 < N → MiP lead r v c N) ∧ (∀ m, N < m → m ≤ 10 → ¬ MiP lead r v c m) := by
  induction d with
  | zero =>
    intro k n h0 hd hk hP
    obtain ⟨k, rfl⟩ : ∃ m, k = m + 1 := ⟨k - 1, by omega⟩
    refine ⟨0, by omega, by omega, ?_, fun h => by omega, fun m h1 h2 => hP m (by omega) h2⟩
    simp only [impl_MostIgniters.l0]
    rw [if_neg (by omega)]
    rfl
  | succ d ih =>
    intro k n h0 hd hk hP
    obtain ⟨k, rfl⟩ : ∃ m, k = m + 1 := ⟨k - 1, by omega⟩
    obtain ⟨e1, e2, e3⟩ := mi_step hl hr hv (m := n) (by omega)
    by_cases hp : MiP lead r v c n
    · refine ⟨n, by omega, by omega, ?_, fun _ => hp, fun m h1 h2 => hP m (by omega) h2⟩
      simp only [impl_MostIgniters.l0]
      rw [if_pos (by omega), e1, if_neg e2, e3, if_pos (show 1000000 * v / (lead + n * r) ≥ c from hp), if_neg (by omega)]
    · obtain ⟨N, a, b, e, f, g⟩ := ih k (n - 1) (by omega) (by omega) (by omega) (fun m h1 h2 => by
        by_cases hm : m = n
        · rw [hm]; exact hp
        · exact hP m (by omega) h2)
      refine ⟨N, a, b, ?_, f, g⟩
      simp only [impl_MostIgniters.l0]
      rw [if_pos (by omega), e1, if_neg e2, e3, if_neg (show ¬ 1000000 * v / (lead + n * r) ≥ c from hp), w64 (n := n - 1) (by omega)]
      exact e
theorem spec_MostIgniters_f (k : Nat) (lead r v c : Int) : spec_MostIgniters.f (k + 1) lead r v c = if 0 ≤ lead ∧ lead ≤ 100000 ∧ 1 ≤ r ∧ r ≤ 100000 ∧ 0 ≤ v ∧ v ≤ 1000 ∧ 0 ≤ c ∧ c ≤ 100000 then spec_MostIgniters.l0 k lead r v c 0 else some (0, 2) := by
  unfold spec_MostIgniters.f
  simp only [l01In_eq, Option.bind_some, decide_eq_true_eq, spec_MostIgniters.j0]
  by_cases h1 : 0 ≤ lead ∧ lead ≤ 100000
  · by_cases h2 : 1 ≤ r ∧ r ≤ 100000
    · by_cases h3 : 0 ≤ v ∧ v ≤ 1000
      · by_cases h4 : 0 ≤ c ∧ c ≤ 100000 <;> simp [h1, h2, h3, h4]
      · rw [if_pos h1, if_pos h2, if_neg h3, if_neg (c := _ ∧ _) (by omega)]; rfl
    · rw [if_pos h1, if_neg h2, if_neg (c := _ ∧ _) (by omega)]; rfl
  · rw [if_neg h1, if_neg (c := _ ∧ _) (by omega)]; rfl
theorem impl_MostIgniters_f (k : Nat) (lead r v c : Int) : impl_MostIgniters.f (k + 1) lead r v c = if 0 ≤ lead ∧ lead ≤ 100000 ∧ 1 ≤ r ∧ r ≤ 100000 ∧ 0 ≤ v ∧ v ≤ 1000 ∧ 0 ≤ c ∧ c ≤ 100000 then impl_MostIgniters.l0 k lead r v c 10 else some (0, 2) := by
  unfold impl_MostIgniters.f impl_isLead.f impl_isIgniter.f impl_areVolts.f impl_isCurrent.f
  simp only [within_eq, Option.bind_some, decide_eq_true_eq, impl_MostIgniters.j0]
  by_cases h1 : 0 ≤ lead ∧ lead ≤ 100000
  · by_cases h2 : 1 ≤ r ∧ r ≤ 100000
    · by_cases h3 : 0 ≤ v ∧ v ≤ 1000
      · by_cases h4 : 0 ≤ c ∧ c ≤ 100000 <;> simp [h1, h2, h3, h4]
      · rw [if_pos h1, if_pos h2, if_neg h3, if_neg (c := _ ∧ _) (by omega)]; rfl
    · rw [if_pos h1, if_neg h2, if_neg (c := _ ∧ _) (by omega)]; rfl
  · rw [if_neg h1, if_neg (c := _ ∧ _) (by omega)]; rfl
theorem agree_MostIgniters (lead r v c : Int) : ∃ q, ∀ k, 12 ≤ k → spec_MostIgniters.f k lead r v c = some q ∧ impl_MostIgniters.f k lead r v c = some q := by
  by_cases h : 0 ≤ lead ∧ lead ≤ 100000 ∧ 1 ≤ r ∧ r ≤ 100000 ∧ 0 ≤ v ∧ v ≤ 1000 ∧ 0 ≤ c ∧ c ≤ 100000
  · obtain ⟨N, -, -, -, -, -⟩ := mi_spec (c := c) (lead := lead) (r := r) (v := v) (by omega) (by omega) (by omega) 10 11 0 (by omega) (by omega) (by omega) (fun m h1 h2 => by omega)
    have hs : ∀ k, 11 ≤ k → ∃ N, 0 ≤ N ∧ N ≤ 10 ∧ spec_MostIgniters.l0 k lead r v c 0 = some (if N = 0 then (0, 4) else (N, 0)) ∧ (∀ m, 1 ≤ m → m ≤ N → MiP lead r v c m) ∧ (N < 10 → ¬ MiP lead r v c (N + 1)) :=
      fun k hk => mi_spec (by omega) (by omega) (by omega) 10 k 0 (by omega) (by omega) (by omega) (fun m h1 h2 => by omega)
    have hi : ∀ k, 11 ≤ k → ∃ N, 0 ≤ N ∧ N ≤ 10 ∧ impl_MostIgniters.l0 k lead r v c 10 = some (if N = 0 then (0, 4) else (N, 0)) ∧ (0 < N → MiP lead r v c N) ∧ (∀ m, N < m → m ≤ 10 → ¬ MiP lead r v c m) :=
      fun k hk => mi_impl (by omega) (by omega) (by omega) 10 k 10 (by omega) (by omega) (by omega) (fun m h1 h2 => by omega)
    have same : ∀ N M : Int, 0 ≤ N → N ≤ 10 → (∀ m, 1 ≤ m → m ≤ N → MiP lead r v c m) → (N < 10 → ¬ MiP lead r v c (N + 1)) → 0 ≤ M → M ≤ 10 → (0 < M → MiP lead r v c M) → (∀ m, M < m → m ≤ 10 → ¬ MiP lead r v c m) → N = M := by
      intro N M h0 h1 h2 h3 g0 g1 g2 g3
      rcases Int.lt_trichotomy N M with hlt | heq | hgt
      · exact absurd (mi_anti (by omega) (by omega) (by omega) (by omega) (show N + 1 ≤ M by omega) (g2 (by omega))) (h3 (by omega))
      · exact heq
      · exact absurd (h2 N (by omega) (by omega)) (g3 N (by omega) h1)
    obtain ⟨M, m0, m1, -, m3, m4⟩ := hi 11 (by omega)
    refine ⟨if M = 0 then (0, 4) else (M, 0), fun k hk => ?_⟩
    obtain ⟨k, rfl⟩ : ∃ m, k = m + 1 := ⟨k - 1, by omega⟩
    rw [spec_MostIgniters_f, impl_MostIgniters_f, if_pos h, if_pos h]
    obtain ⟨N, n0, n1, n2, n3, n4⟩ := hs k (by omega)
    obtain ⟨M', q0, q1, q2, q3, q4⟩ := hi k (by omega)
    have e1 := same N M n0 n1 n3 n4 m0 m1 m3 m4
    have e2 := same N M' n0 n1 n3 n4 q0 q1 q3 q4
    rw [n2, q2, ← e2, ← e1]
    exact ⟨rfl, rfl⟩
  · refine ⟨(0, 2), fun k hk => ?_⟩
    obtain ⟨k, rfl⟩ : ∃ m, k = m + 1 := ⟨k - 1, by omega⟩
    rw [spec_MostIgniters_f, impl_MostIgniters_f, if_neg h, if_neg h]
    exact ⟨rfl, rfl⟩
theorem FnExactMostIgniters (a0 a1 a2 a3 : Int) (q0 : I64 a0) (q1 : I64 a1) (q2 : I64 a2) (q3 : I64 a3) : ∃ k, laws_FnExactMostIgniters.f k a0 a1 a2 a3 = some true := by
  obtain ⟨q, h⟩ := agree_MostIgniters a0 a1 a2 a3
  obtain ⟨h1, h2⟩ := h 12 (by omega)
  refine ⟨12, ?_⟩
  unfold laws_FnExactMostIgniters.f
  rw [h1, h2]
  simp
end Go.Proofs.Ytfplnebeojdgcaa.Pure
