/- QFnTablesf of the law FnTables: taken over, declaration by declaration, as far as the law leans on it (the words and the printed functions are the kit's own print). No condition but what each says. -/
import Derived.Test.YtedcdhnbceaaeaaZFnTablesav
import Derived.Test.YtedcdhnbceaaeaaZFnTablesbd
import Derived.Test.YtedcdhnbceaaeaaZFnTablesaw
import Derived.Test.YtedcdhnbceaaeaaZFnTablesay
namespace Go.Proofs.Ytedcdhnbceaaeaa.PFnTables
open Go.RowKit Go.Proofs.YtedcdhnbceaaeaaW.PrintWords Go.Proofs.YtedcdhnbceaaeaaW.PrintLast Go.Proofs.YtedcdhnbceaaeaaW.PrintMore
attribute [local go_sem] max2_int min2_int max_two min_two max_three min_three max_four min_four   -- for this text's walks alone
set_option linter.unusedVariables false
set_option linter.unusedSimpArgs false
open Bool renaming true → t_, false → f_
/-- A list with the elements from place i on one place further: what copy(l[i+1:], l[i:]) leaves. -/
def shiftM_ (l : List S81) (i : Int) : List S81 := l.take (i.toNat + 1) ++ (l.drop i.toNat).take (l.length - (i.toNat + 1))
theorem shiftM_length_ (l : List S81) (i : Int) (h : i.toNat + 1 ≤ l.length) : (shiftM_ l i).length = l.length := by
 unfold shiftM_
 simp only [List.length_append, List.length_take, List.length_drop]
 omega
mutual
def impl_MergeTables.j0 : Nat → List (S81) → List (S81) → Bool → Option ((List (S81)) × Int)
 | 0, _, _, _ => none
 | k + 1, x0, x1, x18 => if x18 = true then (some (([] : List (S81)), 1)) else ((some (([] : List (S81)) : List (S81))).bind fun y150 => (if y150.length + x0.length < 5864062014805 then ((some (y150 ++ x0 : List (S81))).bind fun y153 => (if y153.length + x1.length < 5864062014805 then ((some (y153 ++ x1 : List (S81))).bind fun y156 => (impl_MergeTables.l0 k ([] : List (S81)) y156 (y156.length : Int) 0)) else (none))) else (none)))
def impl_MergeTables.l0 : Nat → List (S81) → List (S81) → Int → Int → Option ((List (S81)) × Int)
 | 0, _, _, _, _ => none
 | k + 1, x6, x23, x24, x25 => if x25 < x24 then (if 0 ≤ x25 then (if x25 < (x23.length : Int) then (impl_MergeTables.l1 k x6 (x6.length : Int) x23 x24 x25 ((rd_T81 x23 x25).f0) ((rd_T81 x23 x25).f1) ((rd_T81 x23 x25).f2)) else (none)) else (none)) else (if (x6.length : Int) > 12 then (some (([] : List (S81)), 3)) else (impl_MergeTables.l2 k x6 1))
def impl_MergeTables.l1 : Nat → List (S81) → Int → List (S81) → Int → Int → Int → Int → Int → Option ((List (S81)) × Int)
 | 0, _, _, _, _, _, _, _, _ => none
 | k + 1, x6, x9, x23, x24, x25, x161000, x161001, x161002 => if x9 > 0 then (if 0 ≤ (wrap64 (x9 - 1)) then (if (wrap64 (x9 - 1)) < (x6.length : Int) then (if ((rd_T81 x6 (wrap64 (x9 - 1))).f0) > x161000 then (impl_MergeTables.l1 k x6 (wrap64 (x9 - 1)) x23 x24 x25 x161000 x161001 x161002) else (if ((rd_T81 x6 (wrap64 (x9 - 1))).f0) = x161000 then (if ((rd_T81 x6 (wrap64 (x9 - 1))).f1) > x161001 then (impl_MergeTables.l1 k x6 (wrap64 (x9 - 1)) x23 x24 x25 x161000 x161001 x161002) else (if ((rd_T81 x6 (wrap64 (x9 - 1))).f1) = x161001 then (impl_MergeTables.l0 k (x6.set ((wrap64 (x9 - 1)) : Int).toNat (⟨(rd_T81 x6 (wrap64 (x9 - 1))).f0, (rd_T81 x6 (wrap64 (x9 - 1))).f1, mx ((rd_T81 x6 (wrap64 (x9 - 1))).f2) x161002⟩ : S81)) x23 x24 (wrap64 (x25 + 1))) else (if x6.length < 5864062014805 then ((some (x6 ++ [(⟨0, 0, 0⟩ : S81)] : List (S81))).bind fun y168 => (if 0 ≤ x9 then (if x9 < (y168.length : Int) then (impl_MergeTables.l0 k ((shiftM_ y168 x9).set (x9 : Int).toNat (⟨x161000, x161001, x161002⟩ : S81)) x23 x24 (wrap64 (x25 + 1))) else (none)) else (none))) else (none)))) else (if x6.length < 5864062014805 then ((some (x6 ++ [(⟨0, 0, 0⟩ : S81)] : List (S81))).bind fun y174 => (if 0 ≤ x9 then (if x9 < (y174.length : Int) then (impl_MergeTables.l0 k ((shiftM_ y174 x9).set (x9 : Int).toNat (⟨x161000, x161001, x161002⟩ : S81)) x23 x24 (wrap64 (x25 + 1))) else (none)) else (none))) else (none)))) else (none)) else (none)) else (if x6.length < 5864062014805 then ((some (x6 ++ [(⟨0, 0, 0⟩ : S81)] : List (S81))).bind fun y179 => (if 0 ≤ x9 then (if x9 < (y179.length : Int) then (impl_MergeTables.l0 k ((shiftM_ y179 x9).set (x9 : Int).toNat (⟨x161000, x161001, x161002⟩ : S81)) x23 x24 (wrap64 (x25 + 1))) else (none)) else (none))) else (none))
def impl_MergeTables.l2 : Nat → List (S81) → Int → Option ((List (S81)) × Int)
 | 0, _, _ => none
 | k + 1, x6, x10 => if x10 < (x6.length : Int) then (if 0 ≤ (wrap64 (x10 - 1)) then (if (wrap64 (x10 - 1)) < (x6.length : Int) then (if 0 ≤ x10 then (if ((rd_T81 x6 (wrap64 (x10 - 1))).f0) = ((rd_T81 x6 x10).f0) then (impl_MergeTables.l2 k (x6.set (x10 : Int).toNat (⟨(rd_T81 x6 x10).f0, (rd_T81 x6 x10).f1, mx ((rd_T81 x6 x10).f2) ((rd_T81 x6 (wrap64 (x10 - 1))).f2)⟩ : S81)) (wrap64 (x10 + 1))) else (impl_MergeTables.l2 k x6 (wrap64 (x10 + 1)))) else (none)) else (none)) else (none)) else (some (x6, 0))
end
def impl_MergeTables.f (k : Nat) (l0 : List (S81)) (l1 : List (S81)) : Option ((List (S81)) × Int) := (impl_IsTable.f k l0).bind fun t148 => (if t148 = true then ((impl_IsTable.f k l1).bind fun t149 => (impl_MergeTables.j0 k l0 l1 (!t149))) else (impl_MergeTables.j0 k l0 l1 true))
def impl_MergeTables.T8 : Bool × List (List Nat × List Nat) := (true, [([], []), ([0], [0]), ([1], [1]), ([2], [2]), ([2], [2]), ([4, 2], [2, 4]), ([3, 5, 2], [2, 3, 5]), ([6, 2], [2, 6]), ([7, 2], [2, 7]), ([2], [2]), ([9, 2], [2, 9]), ([8, 10, 2], [2, 8, 10]), ([11, 2, 2], [2, 11]), ([12], [12]), ([12], [12]), ([14, 12], [12, 14]), ([13, 15, 12], [12, 13, 15]), ([16, 12], [12, 16]), ([17, 12], [12, 17]), ([12], [12]), ([19, 12], [12, 19]), ([18, 20, 12], [12, 18, 20]), ([21, 12, 12], [12, 21]), ([22], [22]), ([22], [22]), ([24, 22], [22, 24]), ([23, 25, 22], [22, 23, 25]), ([26, 22], [22, 26]), ([27, 22], [22, 27]), ([22], [22]), ([29, 22], [22, 29]), ([28, 30, 22], [22, 28, 30]), ([22, 31, 12], [12, 22, 31]), ([12, 32, 2], [2, 12, 32]), ([2, 33], [2, 33])])
def impl_MergeTables.B8 : List Nat := [0, 1, 3, 7, 7, 23, 63, 127, 255, 7, 519, 2047, 4095, 8191, 8191, 24575, 65535, 131071, 262143, 8191, 532479, 2097151, 4194303, 8388607, 8388607, 25165823, 67108863, 134217727, 268435455, 8388607, 545259519, 2147483647, 4294967295, 8589934591, 17179869183]
theorem impl_MergeTables.tab8 : rtab .any (opsOf Try.f50 8) = impl_MergeTables.T8 := by kernel_rfl
theorem impl_MergeTables.bits8 : waitsOk impl_MergeTables.T8.2 impl_MergeTables.B8 = true := by kernel_rfl
def impl_MergeTables.T10 : Bool × List (List Nat × List Nat) := (true, [([], []), ([0], [0]), ([1], [1]), ([2], [2]), ([2], [2]), ([4, 2], [2, 4]), ([3, 5, 2], [2, 3, 5]), ([6, 2], [2, 6]), ([7, 2], [2, 7]), ([2], [2]), ([9, 2], [2, 9]), ([8, 10, 2], [2, 8, 10]), ([2, 11], [2, 11]), ([12, 2], [12]), ([13], [13]), ([13], [13]), ([15, 13], [13, 15]), ([14, 16, 13], [13, 14, 16]), ([17, 13], [13, 17]), ([18, 13], [13, 18]), ([13], [13]), ([20, 13], [13, 20]), ([19, 21, 13], [13, 19, 21]), ([13, 22], [13, 22])])
def impl_MergeTables.B10 : List Nat := [0, 1, 3, 7, 7, 23, 63, 127, 255, 7, 519, 2047, 4095, 8191, 16383, 16383, 49151, 131071, 262143, 524287, 16383, 1064959, 4194303, 8388607]
theorem impl_MergeTables.tab10 : rtab .any (opsOf Try.f50 10) = impl_MergeTables.T10 := by kernel_rfl
theorem impl_MergeTables.bits10 : waitsOk impl_MergeTables.T10.2 impl_MergeTables.B10 = true := by kernel_rfl
def impl_MergeTables.T11 : Bool × List (List Nat × List Nat) := (true, [([], []), ([], []), ([1], [1]), ([], []), ([], []), ([4], [4]), ([3, 5], [3, 5]), ([6], [6]), ([7], [7]), ([], []), ([9], [9]), ([8, 10], [8, 10]), ([0, 2, 0, 1, 2, 3, 4, 5, 6, 7, 8, 9, 10, 11], [0, 2]), ([12, 0, 1, 2, 3, 4, 5, 6, 7, 8, 9, 10, 11], [12]), ([13, 11, 0, 1, 2, 3, 4, 5, 6, 7, 8, 9, 10, 11], [11, 13])])
def impl_MergeTables.B11 : List Nat := [0, 0, 2, 0, 0, 16, 56, 120, 248, 0, 512, 2040, 4095, 8191, 16383]
theorem impl_MergeTables.tab11 : rtab .any (opsOf Try.f50 11) = impl_MergeTables.T11 := by kernel_rfl
theorem impl_MergeTables.bits11 : waitsOk impl_MergeTables.T11.2 impl_MergeTables.B11 = true := by kernel_rfl
def impl_MergeTables.T13 : Bool × List (List Nat × List Nat) := (true, [([], []), ([], []), ([1], [1]), ([0, 2], [0, 2]), ([], []), ([], []), ([4, 5], [4, 5]), ([3, 6], [3, 6])])
def impl_MergeTables.B13 : List Nat := [0, 0, 2, 7, 0, 0, 48, 127]
theorem impl_MergeTables.tab13 : rtab .any (opsOf Try.f50 13) = impl_MergeTables.T13 := by kernel_rfl
theorem impl_MergeTables.bits13 : waitsOk impl_MergeTables.T13.2 impl_MergeTables.B13 = true := by kernel_rfl
def impl_MergeTables.T21 : Bool × List (List Nat × List Nat) := (true, [([], []), ([], []), ([1], [1]), ([0, 2], [0, 2]), ([3], [3]), ([4], [4]), ([], []), ([], []), ([6, 7], [6, 7]), ([8], [8]), ([9], [9]), ([5, 10], [5, 10])])
def impl_MergeTables.B21 : List Nat := [0, 0, 2, 7, 15, 31, 0, 0, 192, 448, 960, 2047]
theorem impl_MergeTables.tab21 : rtab .any (opsOf Try.f50 21) = impl_MergeTables.T21 := by kernel_rfl
theorem impl_MergeTables.bits21 : waitsOk impl_MergeTables.T21.2 impl_MergeTables.B21 = true := by kernel_rfl
def impl_MergeTables.T22 : Bool × List (List Nat × List Nat) := (true, [([], []), ([], []), ([], []), ([], []), ([2, 3], [2, 3]), ([4], [4]), ([5], [5]), ([], []), ([], []), ([8], [8]), ([7, 9], [7, 9]), ([10], [10]), ([11], [11]), ([6, 12], [6, 12]), ([0, 1, 0, 1, 2, 3, 4, 5, 6, 7, 8, 9, 10, 11, 12, 13], [0, 1]), ([14, 0, 1, 2, 3, 4, 5, 6, 7, 8, 9, 10, 11, 12, 13], [14]), ([15, 13, 0, 1, 2, 3, 4, 5, 6, 7, 8, 9, 10, 11, 12, 13], [13, 15])])
def impl_MergeTables.B22 : List Nat := [0, 0, 0, 0, 12, 28, 60, 0, 0, 256, 896, 1920, 3968, 8188, 16383, 32767, 65535]
theorem impl_MergeTables.tab22 : rtab .any (opsOf Try.f50 22) = impl_MergeTables.T22 := by kernel_rfl
theorem impl_MergeTables.bits22 : waitsOk impl_MergeTables.T22.2 impl_MergeTables.B22 = true := by kernel_rfl
theorem addz_ (g m : Nat) : (⟨g, 0, none⟩ : Addr).add m = ⟨g, m, none⟩ := by
 unfold Addr.add
 split <;> simp_all
theorem below_setRow_ {B g : Nat} {w0 w : World} (hb : Below B w0 w) (hBg : B ≤ g) (cs : Array Value) : Below B w0 (w.setRow g cs) :=
 hb.trans ⟨rfl, rfl, rfl, by simp [World.setRow], fun k hk => setRow_other w g k cs (by omega)⟩
theorem k81_one_ {W : World} {base : Nat} {ok : Nat → Prop} {x : S81} {cs : List Value} (h : k81.M W base ok x cs) : ∀ u ∈ cs, u.oneCell' = true := by
 rw [k81_openM h]
 intro u hu
 simp only [List.mem_cons, List.not_mem_nil, or_false] at hu
 rcases hu with rfl | rfl | rfl <;> rfl
theorem k81_any_ {W W' : World} {base base' : Nat} {ok ok' : Nat → Prop} {x : S81} {cs : List Value} (h : k81.M W base ok x cs) : k81.M W' base' ok' x cs := by
 rw [k81_openM h]
 exact k81_mkM _ _ _ x
theorem reps_one_ {W : World} {base : Nat} {ok : Nat → Prop} {xs : List S81} {cs : List Value} (h : Reps (k81.M W base ok) 3 xs cs) : ∀ u ∈ cs, u.oneCell' = true := by
 intro u hu
 obtain ⟨q, hq, rfl⟩ := List.mem_iff_getElem.1 hu
 have hl := h.1
 have hqx : q / 3 < xs.length := by omega
 have h1 := h.2 (q / 3) _ (List.getElem?_eq_getElem hqx)
 refine k81_one_ h1 _ ?_
 rw [List.mem_iff_getElem?]
 refine ⟨q % 3, ?_⟩
 rw [List.getElem?_take, if_pos (by omega), List.getElem?_drop, show q / 3 * 3 + q % 3 = q by omega, List.getElem?_eq_getElem hq]
/-- The builtin copy of a row's own end onto the place behind: the row, shifted. -/
theorem copy_up_ {W : World} {base g n cap : Nat} {ok : Nat → Prop} {xs : List S81} (h : Kd.R k81 81 W base ok (.slice (some ⟨g, 0, none⟩) n cap) xs) (i : Int) (h0 : 0 ≤ i) (h1 : i < n) (A : Option Addr) (hA : A = (if cap = (i + 1).toNat then (some ⟨g, 0, none⟩ : Option Addr) else (some ⟨g, 0, none⟩ : Option Addr).map (·.add ((i + 1).toNat * 3)))) (B : Option Addr) (hB : B = (if cap = i.toNat then (some ⟨g, 0, none⟩ : Option Addr) else (some ⟨g, 0, none⟩ : Option Addr).map (·.add (i.toNat * 3)))) (nA nB cA cB : Nat) (hnA : nA = n - (i + 1).toNat) (hnB : nB = n - i.toNat) (ty : TypeId) :
  ∃ (v : Value) (w1 : World), (Builtin.copy_ #[29, 29] ty #[.slice A nA cA, .slice B nB cB]).run Try.prog W = .ok v w1 ∧ Kd.R k81 81 w1 base ok (.slice (some ⟨g, 0, none⟩) n cap) (shiftM_ xs i) ∧ W.grownBy w1 (some g) ∧ ∀ (b : Nat) (w0 : World), Below b w0 W → b ≤ g → Below b w0 w1 := by
 obtain ⟨i0_, hi0, _, hsz, _⟩ := info_parts info81
 have hlen := (Kd.R_reads' h).1
 obtain ⟨hok, inner, ho, hr⟩ := h
 obtain ⟨ho1, ho2⟩ := ho
 rcases ho2 with ⟨hv, _⟩ | ⟨g', cap', cur, hv, hb, hh, hnc, hcm, hcs, ht⟩
 ·cases hv
 injection hv with ha hnn hc
 injection ha with ha
 injection ha with hg
 subst hg; subst hc
 have hs3 : k81.sz = 3 := rfl
 rw [hs3] at ho1 hcs ht hr
 obtain ⟨k, hk⟩ : ∃ k, k = i.toNat := ⟨_, rfl⟩
 have hk1 : (i + 1).toNat = k + 1 := by omega
 have hkn : k < n := by omega
 rw [hk1] at hA hnA
 rw [← hk] at hB hnB
 rw [if_neg (by omega)] at hB
 simp only [Option.map_some, addz_] at hB
 have hcurl : cur.toList.length = cap * 3 := by rw [Array.length_toList]; exact hcs
 have hin : ∀ q, q < n * 3 → cur.toList[q]? = inner[q]? := by
  intro q hq
  rw [← ht, List.getElem?_take, if_pos (by rw [← hlen]; exact hq)]
 obtain ⟨cs, hcsd⟩ : ∃ cs, cs = (inner.drop (k * 3)).take ((n - (k + 1)) * 3) := ⟨_, rfl⟩
 have hinl : inner.length = n * 3 := by rw [ho1, ← hlen]
 have hcsl : cs.length = (n - (k + 1)) * 3 := by
  rw [hcsd, List.length_take, List.length_drop, hinl]
  omega
 have hcsq : ∀ j v, cs[j]? = some v → cur[k * 3 + j]? = some v := by
  intro j v hj
  have hjl : j < cs.length := by
   rcases Nat.lt_or_ge j cs.length with h2 | h2
   ·exact h2
   ·rw [List.getElem?_eq_none h2] at hj; cases hj
  rw [hcsd, List.getElem?_take, if_pos (by omega), List.getElem?_drop] at hj
  rw [← hj, ← hin (k * 3 + j) (by omega), Array.getElem?_toList]
 have hload : ∀ j v, cs[j]? = some v → W.cell? ((⟨g, k * 3, none⟩ : Addr).add j) = some v := by
  intro j v hj
  have e : (⟨g, k * 3, none⟩ : Addr).add j = ⟨g, k * 3 + j, none⟩ := by
   unfold Addr.add
   split <;> simp_all
  rw [e, cell_of_row W g _ cur 81 (0, 0) hh]
  exact hcsq j v hj
 have hone : ∀ v ∈ cs, v.oneCell' = true := fun v hv2 => reps_one_ hr v (List.mem_of_mem_drop (List.mem_of_mem_take (hcsd ▸ hv2)))
 have hl := run_loadCells_list (P := Try.prog) W (⟨g, k * 3, none⟩ : Addr) cs hload
 have hmin : nB.min nA = n - (k + 1) := by rw [hnA, hnB]; exact Nat.min_eq_right (by omega)
 have hrepl : Reps (k81.M W base (fun k => ok k ∧ some k ≠ (.slice (some ⟨g, 0, none⟩) n cap : Value).ownBlock)) 3 (shiftM_ xs i) (inner.take ((k + 1) * 3) ++ cs) := by
  unfold shiftM_
  rw [← hk, ← hlen, hcsd]
  refine Kd.reps_append (Kd.reps_take hr (by omega)) ?_
  have h3 := Kd.reps_take (m := n - (k + 1)) (Kd.reps_drop (m := k) hr) (by rw [List.length_drop]; omega)
  exact h3
 have hxl : (shiftM_ xs i).length = n := by rw [shiftM_length_ _ _ (by omega), hlen]
 by_cases hz : n = k + 1
 ·-- nothing goes over
  have hc0 : cs = [] := List.eq_nil_of_length_eq_zero (by omega)
  have hx : shiftM_ xs i = xs := by
   unfold shiftM_
   rw [← hk, List.take_of_length_le (by omega), show xs.length - (k + 1) = 0 by omega, List.take_zero, List.append_nil]
  rw [hx]
  have hl0 : (loadCells (⟨g, k * 3, none⟩ : Addr) 0).run Try.prog W = .ok #[] W := by rw [hc0] at hl; exact hl
  have e0 : nB.min nA = 0 := by omega
  refine ⟨goInt 0, W, ?_, ⟨hok, inner, ⟨by rw [ho1, hs3], .inr ⟨g, cap, cur, by rw [hlen], hb, hh, hnc, hcm, by rw [hs3]; exact hcs, by rw [hs3]; exact ht⟩⟩, by rw [hs3]; exact hr⟩, World.grownBy.refl W _, fun b w0 h2 _ => h2⟩
  rw [hB]
  cases A with
  | none => simp [Builtin.copy_, run_underlying Try.underlying29, Builtin.lenOf, Builtin.firstCells, sizeOf, typeInfo, hi0, hsz, e0, hl0]
  | some ad => simp [Builtin.copy_, run_underlying Try.underlying29, Builtin.lenOf, Builtin.firstCells, sizeOf, typeInfo, hi0, hsz, e0, hl0, storeCells]
 ·rw [if_neg (by omega)] at hA
  simp only [Option.map_some, addz_] at hA
  have hst := run_storeCells_at (P := Try.prog) g ((k + 1) * 3) 81 cs 0 cur W hh (by rw [hcsl, ← Array.length_toList, hcurl]; omega) hone
  obtain ⟨w1, hw1⟩ : ∃ w1, w1 = W.setRow g (cur.toList.take ((k + 1) * 3) ++ cs ++ cur.toList.drop ((k + 1) * 3 + cs.length)).toArray := ⟨_, rfl⟩
  simp only [Nat.add_zero, ← hw1] at hst
  have hl2 : (loadCells (⟨g, k * 3, none⟩ : Addr) ((n - (k + 1)) * 3)).run Try.prog W = .ok cs.toArray W := by rw [← hcsl]; exact hl
  refine ⟨goInt (n - (k + 1) : Nat), w1, ?_, ⟨hok, inner.take ((k + 1) * 3) ++ cs, ⟨?_, .inr ⟨g, cap, (cur.toList.take ((k + 1) * 3) ++ cs ++ cur.toList.drop ((k + 1) * 3 + cs.length)).toArray, ?_, hb, ?_, ?_, hcm, ?_, ?_⟩⟩, hrepl.imp_ (fun p c hp => k81_any_ hp)⟩, ?_, ?_⟩
  ·rw [hA, hB]
   simp [Builtin.copy_, run_underlying Try.underlying29, Builtin.lenOf, Builtin.firstCells, sizeOf, typeInfo, hi0, hsz, hmin, hl2, hst]
  ·rw [hxl, List.length_append, List.length_take, hinl, hcsl, hs3]
   omega
  ·rw [hxl]
  ·rw [hw1]
   exact setRow_heap W g cur _ 81 (0, 0) hh
  ·rw [hxl]
   omega
  ·rw [hs3]
   simp only [List.size_toArray, List.length_append, List.length_take, List.length_drop, hcurl, hcsl]
   omega
  ·rw [hxl, hs3]
   have e1 : cur.toList.take ((k + 1) * 3) = inner.take ((k + 1) * 3) := by
    apply List.ext_getElem?
    intro q
    rw [List.getElem?_take, List.getElem?_take]
    by_cases hq : q < (k + 1) * 3
    ·rw [if_pos hq, if_pos hq, hin q (by omega)]
    ·rw [if_neg hq, if_neg hq]
   rw [e1, List.toList_toArray]
   exact List.take_left' (by rw [List.length_append, List.length_take, hinl, hcsl]; omega)
  ·rw [hw1]
   exact ⟨rfl, rfl, rfl, by simp [World.setRow], fun j _ hj => setRow_other W g j _ (fun e => hj (by rw [e]))⟩
  ·intro b w0 h2 h3
   rw [hw1]
   exact below_setRow_ h2 h3 _
set_option maxHeartbeats 8000000 in
set_option maxRecDepth 100000 in
theorem impl_MergeTables.calls (k : Nat) (A0 : Option Addr) (c0 : Nat) (l0 : List (S81)) (A1 : Option Addr) (c1 : Nat) (l1 : List (S81)) (r1 : List (S81)) (r2 : Int) (w : World) (hr0 : Kd.C k81 w A0 l0.length l0) (hc0 : l0.length ≤ c0) (hr1 : Kd.C k81 w A1 l1.length l1) (hc1 : l1.length ≤ c1) (h : impl_MergeTables.f k l0 l1 = some (r1, r2)) :
  Calls Try.prog 50 #[.slice A0 l0.length c0, .slice A1 l1.length c1] w fun e w' => ∃ v0_ : Value, e = .returned (.tuple #[v0_, .int .i64 r2]) ∧ Kd.R k81 81 w' w.heap.size (fun _ => True) v0_ r1 ∧ Below w.heap.size w w' := by
 have hu81 := Try.underlying81
 have HR0 := Aside0.mk hr0
 have HC0 := Aside0.mk hc0
 clear hr0 hc0
 have HR1 := Aside0.mk hr1
 have HC1 := Aside0.mk hc1
 clear hr1 hc1
 have HB := Aside0.mk (Below.refl w.heap.size w)
 have H : ((impl_IsTable.f k l0).bind fun t148 => (if t148 = true then ((impl_IsTable.f k l1).bind fun t149 => (impl_MergeTables.j0 k l0 l1 (!t149))) else (impl_MergeTables.j0 k l0 l1 true))) = some (r1, r2) := h
 clear h
 have HC3 := Aside0.mk H
 clear H
 go_enter Try.func50, Try.ntmps50
 go_upto_region 1 with (fail)
 go_cut [18] (fun v18 wc => ∃ (kq : Nat) (x18_2 : Bool), v18 = .bool x18_2 ∧ Aside0 (impl_MergeTables.j0 kq l0 l1 x18_2 = some (r1, r2)) ∧ Aside0 (kq ≤ k) ∧ Aside0 (Below w.heap.size w wc))
 case first =>
  have H := HC3.out
  clear HC3
  replace H := Option.bind_eq_some_iff.mp H
  obtain ⟨t148, A40, H⟩ := H
  try dsimp only at H
  have A4 := Aside0.mk A40
  clear A40
  by_cases c5 : t148 = true
  case neg =>
   replace c5 := Bool.eq_false_iff.mpr c5
   subst c5
   rw [if_neg (show ¬ (false = true) by decide)] at H
   have H' := Aside0.mk H
   clear H
   go_wp2_with (first | ((with_reducible refine gate_callee (f := 54) rfl ?_); refine goesL_ (some 12) rfl rfl Try.func54 (by kernel_rfl) rfl #[.slice A0 l0.length c0] rfl ag_ ?_; (with_reducible refine (impl_IsTable.calls k _ _ l0 false _ ?side1 ?side2 A4.out).mono ?_); (case side1 => exact r7_ HR0.out HB.out); (case side2 => exact HC0.out); rintro e w9 ⟨rfl, hb⟩; refine ⟨_, rfl, ?_⟩; replace HB := Aside0.mk (below_step (bl_ HB.out) hb); (try clear hb); (try clear hb2); (try clear hk); (try clear hi)))
   go_meet
   case rel => exact ⟨_, (true), rs_, H', ⟨by first | omega | exact Nat.le_refl _⟩, ⟨bl_ HB.out⟩⟩
  subst c5
  rw [if_pos rfl] at H
  replace H := Option.bind_eq_some_iff.mp H
  obtain ⟨t149, A60, H⟩ := H
  try dsimp only at H
  have A6 := Aside0.mk A60
  clear A60
  have H' := Aside0.mk H
  clear H
  go_wp2_with (first | ((with_reducible refine gate_callee (f := 54) rfl ?_); refine goesL_ (some 12) rfl rfl Try.func54 (by kernel_rfl) rfl #[.slice A0 l0.length c0] rfl ag_ ?_; (with_reducible refine (impl_IsTable.calls k _ _ l0 true _ ?side1 ?side2 A4.out).mono ?_); (case side1 => exact r7_ HR0.out HB.out); (case side2 => exact HC0.out); rintro e w7 ⟨rfl, hb⟩; refine ⟨_, rfl, ?_⟩; replace HB := Aside0.mk (below_step (bl_ HB.out) hb); (try clear hb); (try clear hb2); (try clear hk); (try clear hi)) | (go_at_call 54; (with_reducible refine (impl_IsTable.calls k _ _ l1 t149 _ ?side1 ?side2 A6.out).mono ?_); (case side1 => exact r7_ HR1.out HB.out); (case side2 => exact HC1.out); rintro e w8 ⟨rfl, hb⟩; replace HB := Aside0.mk (below_step (bl_ HB.out) hb); (try clear hb); (try clear hb2); (try clear hk); (try clear hi)))
  go_meet
  case rel => exact ⟨_, (!t149), rs_, H', ⟨by first | omega | exact Nat.le_refl _⟩, ⟨bl_ HB.out⟩⟩
 case rest =>
  clear HC3
  try clear c1
  try clear p2
  try clear c5
  obtain ⟨kq, x18_2, rfl, HA, HJ2, HB⟩ := hcut
  cases kq with
  | zero => exact absurd HA.out (by simp [impl_MergeTables.j0])
  | succ kj2 =>
   have H := HA.out
   clear HA
   simp only [impl_MergeTables.j0] at H
   by_cases c10 : x18_2 = true
   case pos =>
    subst c10
    rw [if_pos rfl] at H
    simp only [Option.some.injEq, Prod.mk.injEq] at H
    obtain ⟨rfl, rfl⟩ := H
    go_wp2
    go_ret2
    exact ⟨_, re_, by first | exact Kd.R_nil _ _ _ _ _ | exact Kd.N_nil _ _ _ _ _ | exact Kd.V_nil _ _ _ _ _ | exact Kd.Q_nil _ _ _ _ _ | exact Kd.S_nil _ _ _ _ _, bl_ HB.out⟩
   replace c10 := Bool.eq_false_iff.mpr c10
   subst c10
   rw [if_neg (show ¬ (false = true) by decide)] at H
   obtain ⟨y150, hy150⟩ : ∃ y_ : List (S81), y_ = (([] : List (S81))) := ⟨_, rfl⟩
   replace H : (if y150.length + l0.length < 5864062014805 then ((some (y150 ++ l0 : List (S81))).bind fun y153 => (if y153.length + l1.length < 5864062014805 then ((some (y153 ++ l1 : List (S81))).bind fun y156 => (impl_MergeTables.l0 kj2 ([] : List (S81)) y156 (y156.length : Int) 0)) else (none))) else (none)) = some (r1, r2) := by first | (rw [hy150]; with_reducible exact H) | (have H2_ := (Option.bind_some _ _).symm.trans H; rw [hy150]; with_reducible exact H2_) | (have H2_ := (Option.bind_some _ _).symm.trans H; with_reducible exact H2_) | with_reducible exact H | (rw [hy150]; exact H) | exact H
   have Ny150 := Aside0.mk hy150
   clear hy150
   by_cases c11 : y150.length + l0.length < 5864062014805
   case neg =>
    rw [if_neg c11] at H
    exact absurd H (by simp)


   rw [if_pos c11] at H
   have LMc11 := Aside0.mk c11
   clear c11
   obtain ⟨y153, hy153⟩ : ∃ y_ : List (S81), y_ = (y150 ++ l0) := ⟨_, rfl⟩
   replace H : (if y153.length + l1.length < 5864062014805 then ((some (y153 ++ l1 : List (S81))).bind fun y156 => (impl_MergeTables.l0 kj2 ([] : List (S81)) y156 (y156.length : Int) 0)) else (none)) = some (r1, r2) := by first | (rw [hy153]; with_reducible exact H) | (have H2_ := (Option.bind_some _ _).symm.trans H; rw [hy153]; with_reducible exact H2_) | (have H2_ := (Option.bind_some _ _).symm.trans H; with_reducible exact H2_) | with_reducible exact H | (rw [hy153]; exact H) | exact H
   have Ny153 := Aside0.mk hy153
   clear hy153
   by_cases c12 : y153.length + l1.length < 5864062014805
   case neg =>
    rw [if_neg c12] at H
    exact absurd H (by simp)
   rw [if_pos c12] at H
   have LMc12 := Aside0.mk c12
   clear c12
   obtain ⟨y156, hy156⟩ : ∃ y_ : List (S81), y_ = (y153 ++ l1) := ⟨_, rfl⟩
   replace H : (impl_MergeTables.l0 kj2 ([] : List (S81)) y156 (y156.length : Int) 0) = some (r1, r2) := by first | (rw [hy156]; with_reducible exact H) | (have H2_ := (Option.bind_some _ _).symm.trans H; rw [hy156]; with_reducible exact H2_) | (have H2_ := (Option.bind_some _ _).symm.trans H; with_reducible exact H2_) | with_reducible exact H | (rw [hy156]; exact H) | exact H
   have Ny156 := Aside0.mk hy156
   clear hy156
   have H' := Aside0.mk H
   clear H
   go_wp2_with (first | ((with_reducible refine gate_dst (N := 19) rfl ?_); refine Kd.R_lit k81 _ 81 ?hg (N := 19) ?hd (xs := ([] : List (S81))) (inner := []) (ok := fun _ => True) (okp := fun _ => True) ?hr ?hp (fun _ hk => hk) trivial (Below.refl _ _) (Nat.le_refl _) (by simp) ?_; (case hd => rfl); (case hg => rfl); (case hr => first | (go_simp; done) | (go_simp; rfl)); (case hp => exact (Reps.none _ _)); intro v151 w13 ho14 hb hg_ hnew_; clear hg_ hnew_; (first | rw [← Ny150.out] at ho14 | (simp only [Int.reduceToNat] at ho14; rw [← Ny150.out] at ho14)); have HO152 := Aside0.mk (Kd.R_lower ho14 (below_size (bl_ HB.out))); replace HB := Aside0.mk (below_step (bl_ HB.out) hb); clear hb ho14) | ((with_reducible refine gate_builtin (b := .append) (xs := #[.tmp 19, .tmp 20]) rfl ?_); at_builtin; refine Kd.R_append_rows k81 (w0 := w) w.heap.size rfl (.tmp 19) (.tmp 20) 29 81 (.agg #[(.int .i64 0), (.int .i64 0), (.int .i64 0)]) 24 rfl Try.underlying29 info81 rfl (by decide) (by omega) v151 y150 l0 _ _ _ (fun _ => True) (fun _ => False) rfl rfl ?aO ?aR (fun _ _ h => h) (fun _ h => h.elim) ?aF ?aB ?aS ?aL ?_; (case aR => exact r7_ HR0.out HB.out); (case aB => exact (bl_ HB.out)); (case aF => exact (fun _ _ => trivial)); (case aO => exact (rk_ HO152.out)); (case aS => exact (below_size (bl_ HB.out))); (case aL => have := LMc11.out; omega); intro v154 w15 ho hb hg hat; rw [← Ny153.out] at ho; have n0_ := Aside0.mk (hb); have n1_ := Aside0.mk (ho); clear HB; clear HO152; have HB := n0_; have HO155 := n1_; clear n0_ n1_; clear ho hb hg hat) | ((with_reducible refine gate_builtin (b := .append) (xs := #[.tmp 21, .tmp 22]) rfl ?_); at_builtin; refine Kd.R_append_rows k81 (w0 := w) w.heap.size rfl (.tmp 21) (.tmp 22) 29 81 (.agg #[(.int .i64 0), (.int .i64 0), (.int .i64 0)]) 24 rfl Try.underlying29 info81 rfl (by decide) (by omega) v154 y153 l1 _ _ _ (fun _ => True) (fun _ => False) rfl rfl ?aO ?aR (fun _ _ h => h) (fun _ h => h.elim) ?aF ?aB ?aS ?aL ?_; (case aR => exact r7_ HR1.out HB.out); (case aB => exact (bl_ HB.out)); (case aF => exact (fun _ _ => trivial)); (case aO => exact (rk_ HO155.out)); (case aS => exact (below_size (bl_ HB.out))); (case aL => have := LMc12.out; omega); intro v157 w16 ho hb hg hat; rw [← Ny156.out] at ho; have n0_ := Aside0.mk (hb); have n1_ := Aside0.mk (ho); clear HB; clear HO155; have HB := n0_; have HO158 := n1_; clear n0_ n1_; clear ho hb hg hat; obtain ⟨Ao17, co17, eo17⟩ := Kd.R_slice HO158.out; subst eo17))
   go_loopg [6, 25] kj2 (fun kq v6 v25 w' => ∃ (x6_2 : List (S81)) (x23_2 : List (S81)) (x25_2 : Int), v25 = .int .i64 x25_2 ∧ Aside0 (impl_MergeTables.l0 kq x6_2 x23_2 (y156.length : Int) x25_2 = some (r1, r2)) ∧ Aside0 (kq ≤ kj2) ∧ Aside0 (Kd.R k81 81 w' w.heap.size (fun k_ => some k_ ≠ ((.slice Ao17 y156.length co17) : Value).ownBlock) v6 x6_2) ∧ Aside0 (Kd.R k81 81 w' w.heap.size (fun k_ => some k_ ≠ (v6 : Value).ownBlock) (.slice Ao17 y156.length co17) x23_2) ∧ Aside0 (Below w.heap.size w w'))
   case atStart => exact ⟨(([] : List (S81))), (y156), (0), rs_, H', ⟨Nat.le_refl _⟩, ⟨by first | exact Kd.R_nil _ _ _ _ _ | exact Kd.N_nil _ _ _ _ _ | exact Kd.V_nil _ _ _ _ _ | exact Kd.Q_nil _ _ _ _ _ | exact Kd.S_nil _ _ _ _ _⟩, ⟨rk_ (Kd.R_mono HO158.out (fun _ hk => (by simp [Value.ownBlock])))⟩, ⟨bl_ HB.out⟩⟩
   case round =>
    clear H'
    try clear c1
    try clear p2
    try clear c5
    try clear c10
    try clear c11
    try clear c12
    try clear p2
    obtain ⟨x6_2, x23_2, x25_2, rfl, HA, HK2, HO_6, HO_23, HB⟩ := hrel
    have hl23_2 := (Kd.R_reads' HO_23.out).1
    rw [hl23_2] at HO_23
    (try simp only [hl23_2])
    (try simp only [hl23_2] at HO_6)
    cases gk with
    | zero => exact absurd HA.out (by simp [impl_MergeTables.l0])
    | succ k2 =>
     have H := HA.out
     clear HA
     simp only [impl_MergeTables.l0] at H
     by_cases c18 : x25_2 < (y156.length : Int)
     case neg =>
      rw [if_neg c18] at H
      have c18b0 := decide_eq_false c18
      (try simp only [hl23_2] at c18b0)
      clear c18
      by_cases c82 : (x6_2.length : Int) > 12
      case pos =>
       rw [if_pos c82] at H
       have c82b0 : decide (12 < (x6_2.length : Int)) = true := decide_eq_true c82
       have c82b1 : decide (12 < x6_2.length) = true := decide_eq_true (by omega)
       clear c82
       simp only [Option.some.injEq, Prod.mk.injEq] at H
       obtain ⟨rfl, rfl⟩ := H
       obtain ⟨Ao83, co83, eo83⟩ := Kd.R_slice HO_6.out
       subst eo83
       go_wp2
       go_ret2
       exact ⟨_, re_, by first | exact Kd.R_nil _ _ _ _ _ | exact Kd.N_nil _ _ _ _ _ | exact Kd.V_nil _ _ _ _ _ | exact Kd.Q_nil _ _ _ _ _ | exact Kd.S_nil _ _ _ _ _, bl_ HB.out⟩
      rw [if_neg c82] at H
      have c82b0 : decide (12 < (x6_2.length : Int)) = false := decide_eq_false c82
      have c82b1 : decide (12 < x6_2.length) = false := decide_eq_false (by omega)
      clear c82
      have H' := Aside0.mk H
      clear H
      obtain ⟨Ao84, co84, eo84⟩ := Kd.R_slice HO_6.out
      subst eo84
      go_wp2
      go_loopg [10] k2 (fun kq v10 w' => ∃ (x6_3 : List (S81)) (x10_3 : Int), v10 = .int .i64 x10_3 ∧ Aside0 (impl_MergeTables.l2 kq x6_3 x10_3 = some (r1, r2)) ∧ Aside0 (kq ≤ k2) ∧ Aside0 (Kd.R k81 81 w' w.heap.size (fun _ => True) (.slice Ao84 x6_2.length co84) x6_3) ∧ Aside0 (Below w.heap.size w w'))
      case atStart => exact ⟨(x6_2), (1), rs_, H', ⟨Nat.le_refl _⟩, ⟨by (try simp only [hl23_2]); (with_reducible repeat (first | apply Kd.R_alloc | apply Kd.R_drewN | apply Kd.R_drew)); exact Kd.R_mono HO_6.out (fun _ hk => trivial)⟩, ⟨bl_ HB.out⟩⟩
      case round =>
       clear H'
       try clear c1
       try clear c2
       try clear p2
       try clear c5
       try clear p5
       try clear q5
       try clear c6
       try clear p6
       try clear hx6
       try clear hf6
       try clear c7
       try clear p7
       try clear q7
       try clear hx7
       try clear hf7
       try clear c8
       try clear hx8
       try clear hf8
       try clear c18
       try clear c18b0
       try clear c19
       try clear c20
       try clear c24
       try clear c24b0
       try clear c26
       try clear c27
       try clear c54
       try clear c55
       try clear c56
       try clear p58
       try clear q58
       try clear p64
       try clear c66
       try clear hx66
       try clear hf66
       try clear c68
       try clear c69
       try clear c69b0
       try clear c70
       try clear c70b0
       try clear c71
       try clear p71
       try clear q71
       try clear hx71
       try clear hf71
       try clear p72
       try clear q72
       try clear c77
       try clear c80
       try clear hx80
       try clear hf80
       try clear c82
       try clear c82b0
       try clear c82b1
       try clear hcz65_0
       try clear hcz65_1
       try clear hcz65_2
       try clear hcz79_0
       try clear hcz79_1
       try clear hcz79_2
       try clear hfz65_0
       try clear hfz65_1
       try clear hfz65_2
       try clear hfz79_0
       try clear hfz79_1
       try clear hfz79_2
       try clear hx66_0
       try clear hx66_1
       try clear hx66_2
       try clear hx71_0
       try clear hx71_1
       try clear hx71_2
       try clear hx80_0
       try clear hx80_1
       try clear hx80_2
       try clear p58
       try clear p71
       try clear p72
       try clear q58
       try clear q71
       try clear q72
       obtain ⟨x6_3, x10_3, rfl, HA, HK3, HO_6, HB⟩ := hrel
       have hl6_3 := (Kd.R_reads' HO_6.out).1
       rw [hl6_3] at HO_6
       (try simp only [hl6_3])
       cases gk with
       | zero => exact absurd HA.out (by simp [impl_MergeTables.l2])
       | succ k3 =>
        have H := HA.out
        clear HA
        simp only [impl_MergeTables.l2] at H
        by_cases c85 : x10_3 < (x6_3.length : Int)
        case neg =>
         rw [if_neg c85] at H
         have c85b0 := decide_eq_false c85
         clear c85
         simp only [Option.some.injEq, Prod.mk.injEq] at H
         obtain ⟨rfl, rfl⟩ := H
         go_wp2
         go_ret2
         exact ⟨_, re_, rk_ HO_6.out, bl_ HB.out⟩
        rw [if_pos c85] at H
        have c85b0 := decide_eq_true c85
        clear c85
        obtain ⟨ji86, hji86⟩ : ∃ j_ : Int, (wrap64 (x10_3 - 1)) = j_ := ⟨_, rfl⟩
        replace H : (if 0 ≤ (ji86) then (if (ji86) < (x6_3.length : Int) then (if 0 ≤ x10_3 then (if ((rd_T81 x6_3 (ji86)).f0) = ((rd_T81 x6_3 x10_3).f0) then (impl_MergeTables.l2 k3 (x6_3.set (x10_3 : Int).toNat (⟨(rd_T81 x6_3 x10_3).f0, (rd_T81 x6_3 x10_3).f1, mx ((rd_T81 x6_3 x10_3).f2) ((rd_T81 x6_3 (ji86)).f2)⟩ : S81)) (wrap64 (x10_3 + 1))) else (impl_MergeTables.l2 k3 x6_3 (wrap64 (x10_3 + 1)))) else (none)) else (none)) else (none)) = some (r1, r2) := by first | (rw [hji86] at H; exact H) | (simp only [hji86] at H ⊢; exact H)
        have hji86w : (IntKind.i64.wrap (x10_3 - 1)) = ji86 := (i64_w _).trans hji86
        by_cases c87 : 0 ≤ (ji86)
        case neg =>
         rw [if_neg c87] at H
         exact absurd H (by simp)
        rw [if_pos c87] at H
        have c87b0 := decide_eq_true c87
        clear c87
        by_cases c88 : (ji86) < (x6_3.length : Int)
        case neg =>
         rw [if_neg c88] at H
         exact absurd H (by simp)
        rw [if_pos c88] at H
        have c88b0 := decide_eq_true c88
        clear c88
        by_cases c89 : 0 ≤ x10_3
        case neg =>
         rw [if_neg c89] at H
         exact absurd H (by simp)
        rw [if_pos c89] at H
        have c89b0 := decide_eq_true c89
        clear c89
        by_cases c90 : ((rd_T81 x6_3 (ji86)).f0) = ((rd_T81 x6_3 x10_3).f0)
        case neg =>
         rw [if_neg c90] at H
         have c90b0 := beq_eq_false_iff_ne.mpr c90
         have c90b1 := bne_iff_ne.mpr c90
         have H' := Aside0.mk H
         clear H
         try go_wp2
         replace HO_6 := Aside0.mk (Kd.R_drew HO_6.out)
         replace HB := Aside0.mk (below_drew1 HB.out)
         have p184 : 0 ≤ ((ji86) : Int) := od_
         have q184 : (ji86) < (x6_3.length : Int) := od_
         obtain ⟨ad184, e184, hx184_0, hx184_1, hx184_2⟩ := at_T81 (Kd.R_reads' HO_6.out).2.2 (ji86) p184 q184
         cases e184
         replace p184 := eq_true p184
         replace q184 := eq_true q184
         have p185 : 0 ≤ (x10_3 : Int) := od_
         have q185 : x10_3 < (x6_3.length : Int) := od_
         obtain ⟨ad185, e185, hx185_0, hx185_1, hx185_2⟩ := at_T81 (Kd.R_reads' HO_6.out).2.2 x10_3 p185 q185
         obtain rfl : ad184 = ad185 := (by injection e185)
         replace p185 := eq_true p185
         replace q185 := eq_true q185
         refine start_ (n := 12) (S := fun w' => w'.cell? (ad184.add (((ji86)).toNat * 3)) = some (.int .i64 ((rd_T81 x6_3 (ji86)).f0)) ∧ w'.cell? ⟨(ad184.add (((ji86)).toNat * 3)).block, (ad184.add (((ji86)).toNat * 3)).off + 1, none⟩ = some (.int .i64 ((rd_T81 x6_3 (ji86)).f1)) ∧ w'.cell? ⟨(ad184.add (((ji86)).toNat * 3)).block, (ad184.add (((ji86)).toNat * 3)).off + 2, none⟩ = some (.int .i64 ((rd_T81 x6_3 (ji86)).f2)) ∧ w'.cell? (ad184.add ((x10_3).toNat * 3)) = some (.int .i64 ((rd_T81 x6_3 x10_3).f0)) ∧ w'.cell? ⟨(ad184.add ((x10_3).toNat * 3)).block, (ad184.add ((x10_3).toNat * 3)).off + 1, none⟩ = some (.int .i64 ((rd_T81 x6_3 x10_3).f1)) ∧ w'.cell? ⟨(ad184.add ((x10_3).toNat * 3)).block, (ad184.add ((x10_3).toNat * 3)).off + 2, none⟩ = some (.int .i64 ((rd_T81 x6_3 x10_3).f2))) (ds := []) #[f_,f_,f_,f_,f_,f_,f_,f_,f_,f_,f_,f_] (by kernel_rfl) rfl rfl ⟨hx184_0, hx184_1, hx184_2, hx185_0, hx185_1, hx185_2⟩ (fun hHeld => ?_); refine with_tabW impl_MergeTables.tab21 impl_MergeTables.bits21 (fun HT_ HW_ => ?_)
         generalize wr.drew = w96 at HO_6 HB hx184_0 hx184_1 hx184_2 hx185_0 hx185_1 hx185_2 hHeld ⊢
         refine pv_ 0 132 HT_.out ?_
         refine pv_ 1 133 HT_.out ?_
         refine pv_ 2 134 HT_.out ?_
         refine pv_ 3 135 HT_.out ?_
         refine pv_ 4 136 HT_.out ?_
         refine pv_ 6 138 HT_.out ?_
         refine pv_ 7 139 HT_.out ?_
         refine pv_ 8 140 HT_.out ?_
         refine pv_ 9 141 HT_.out ?_
         refine tv6_ 5 137 HT_.out HW_.out hHeld ?_
         refine tv6_ 10 142 HT_.out HW_.out hHeld ?_
         refine pu_ 11 143 #[t_,t_,t_,t_,t_,t_,t_,t_,t_,t_,t_,t_] HT_.out ?_
         refine done_ (done_of HT_.out (by kernel_rfl)) ?_
         try go_wp2
         (try simp only [← hl6_3])
         go_roundg k3
         case measure => have := HJ2.out; have := HK2.out; have := HK3.out; omega
         case rel => exact ⟨(x6_3), (wrap64 (x10_3 + 1)), rs_, H', ⟨by have := HJ2.out; have := HK2.out; have := HK3.out; omega⟩, ⟨by (try simp only [hl23_2]); (try simp only [hl6_3]); (with_reducible repeat (first | apply Kd.R_alloc | apply Kd.R_drewN | apply Kd.R_drew)); exact HO_6.out⟩, ⟨bl_ HB.out⟩⟩
        rw [if_pos c90] at H
        have c90b0 := beq_iff_eq.mpr c90
        have c90b1 := bne_eq_false_iff_eq.mpr c90
        clear c90
        obtain ⟨ji91, hji91⟩ : ∃ j_ : Int, (mx ((rd_T81 x6_3 x10_3).f2) ((rd_T81 x6_3 (ji86)).f2)) = j_ := ⟨_, rfl⟩
        replace H : (impl_MergeTables.l2 k3 (x6_3.set (x10_3 : Int).toNat (⟨(rd_T81 x6_3 x10_3).f0, (rd_T81 x6_3 x10_3).f1, ji91⟩ : S81)) (wrap64 (x10_3 + 1))) = some (r1, r2) := by first | (rw [hji91] at H; exact H) | (simp only [hji91] at H ⊢; exact H)
        have hji91_ : (if ((rd_T81 x6_3 x10_3).f2) < ((rd_T81 x6_3 (ji86)).f2) then ((rd_T81 x6_3 (ji86)).f2) else ((rd_T81 x6_3 x10_3).f2)) = ji91 := hji91
        obtain ⟨y188, hy188⟩ : ∃ y_ : List (S81), y_ = (x6_3.set (x10_3 : Int).toNat (⟨(rd_T81 x6_3 x10_3).f0, (rd_T81 x6_3 x10_3).f1, ji91⟩ : S81)) := ⟨_, rfl⟩
        replace H : (impl_MergeTables.l2 k3 y188 (wrap64 (x10_3 + 1))) = some (r1, r2) := by first | (rw [hy188]; with_reducible exact H) | (have H2_ := (Option.bind_some _ _).symm.trans H; rw [hy188]; with_reducible exact H2_) | (have H2_ := (Option.bind_some _ _).symm.trans H; with_reducible exact H2_) | with_reducible exact H | (rw [hy188]; exact H) | exact H
        have Ny188 := Aside0.mk hy188
        clear hy188
        have H' := Aside0.mk H
        clear H
        try go_wp2
        replace HO_6 := Aside0.mk (Kd.R_drew HO_6.out)
        replace HB := Aside0.mk (below_drew1 HB.out)
        have p184 : 0 ≤ ((ji86) : Int) := od_
        have q184 : (ji86) < (x6_3.length : Int) := od_
        obtain ⟨ad184, e184, hx184_0, hx184_1, hx184_2⟩ := at_T81 (Kd.R_reads' HO_6.out).2.2 (ji86) p184 q184
        cases e184
        replace p184 := eq_true p184
        replace q184 := eq_true q184
        have p185 : 0 ≤ (x10_3 : Int) := od_
        have q185 : x10_3 < (x6_3.length : Int) := od_
        obtain ⟨ad185, e185, hx185_0, hx185_1, hx185_2⟩ := at_T81 (Kd.R_reads' HO_6.out).2.2 x10_3 p185 q185
        obtain rfl : ad184 = ad185 := (by injection e185)
        replace p185 := eq_true p185
        replace q185 := eq_true q185
        refine start_ (n := 12) (S := fun w' => w'.cell? (ad184.add (((ji86)).toNat * 3)) = some (.int .i64 ((rd_T81 x6_3 (ji86)).f0)) ∧ w'.cell? ⟨(ad184.add (((ji86)).toNat * 3)).block, (ad184.add (((ji86)).toNat * 3)).off + 1, none⟩ = some (.int .i64 ((rd_T81 x6_3 (ji86)).f1)) ∧ w'.cell? ⟨(ad184.add (((ji86)).toNat * 3)).block, (ad184.add (((ji86)).toNat * 3)).off + 2, none⟩ = some (.int .i64 ((rd_T81 x6_3 (ji86)).f2)) ∧ w'.cell? (ad184.add ((x10_3).toNat * 3)) = some (.int .i64 ((rd_T81 x6_3 x10_3).f0)) ∧ w'.cell? ⟨(ad184.add ((x10_3).toNat * 3)).block, (ad184.add ((x10_3).toNat * 3)).off + 1, none⟩ = some (.int .i64 ((rd_T81 x6_3 x10_3).f1)) ∧ w'.cell? ⟨(ad184.add ((x10_3).toNat * 3)).block, (ad184.add ((x10_3).toNat * 3)).off + 2, none⟩ = some (.int .i64 ((rd_T81 x6_3 x10_3).f2))) (ds := []) #[f_,f_,f_,f_,f_,f_,f_,f_,f_,f_,f_,f_] (by kernel_rfl) rfl rfl ⟨hx184_0, hx184_1, hx184_2, hx185_0, hx185_1, hx185_2⟩ (fun hHeld => ?_); refine with_tabW impl_MergeTables.tab21 impl_MergeTables.bits21 (fun HT_ HW_ => ?_)
        generalize wr.drew = w93 at HO_6 HB hx184_0 hx184_1 hx184_2 hx185_0 hx185_1 hx185_2 hHeld ⊢
        refine pv_ 0 132 HT_.out ?_
        refine pv_ 1 133 HT_.out ?_
        refine pv_ 2 134 HT_.out ?_
        refine pv_ 3 135 HT_.out ?_
        refine pv_ 4 136 HT_.out ?_
        refine pv_ 6 138 HT_.out ?_
        refine pv_ 7 139 HT_.out ?_
        refine pv_ 8 140 HT_.out ?_
        refine pv_ 9 141 HT_.out ?_
        refine tv6_ 5 137 HT_.out HW_.out hHeld ?_
        refine tv6_ 10 142 HT_.out HW_.out hHeld ?_
        refine pu_ 11 143 #[t_,t_,t_,t_,t_,t_,t_,t_,t_,t_,t_,t_] HT_.out ?_
        refine done_ (done_of HT_.out (by kernel_rfl)) ?_
        try go_wp2
        replace HO_6 := Aside0.mk (Kd.R_drew HO_6.out)
        replace HB := Aside0.mk (below_drew1 HB.out)
        have p186 : 0 ≤ (x10_3 : Int) := od_
        have q186 : x10_3 < (x6_3.length : Int) := od_
        obtain ⟨ad186, e186, hx186_0, hx186_1, hx186_2⟩ := at_T81 (Kd.R_reads' HO_6.out).2.2 x10_3 p186 q186
        obtain rfl : ad184 = ad186 := (by injection e186)
        replace p186 := eq_true p186
        replace q186 := eq_true q186
        have p187 : 0 ≤ ((ji86) : Int) := od_
        have q187 : (ji86) < (x6_3.length : Int) := od_
        obtain ⟨ad187, e187, hx187_0, hx187_1, hx187_2⟩ := at_T81 (Kd.R_reads' HO_6.out).2.2 (ji86) p187 q187
        obtain rfl : ad184 = ad187 := (by injection e187)
        replace p187 := eq_true p187
        replace q187 := eq_true q187
        have p92 : 0 ≤ (x10_3 : Int) := od_
        have q92 : (x10_3 : Int) < ((x6_3.length : Int) : Int) := od_
        obtain ⟨go92, co92, eo92, gb92, gl92, cl92, HG92⟩ := Kd.R_form HO_6.out (by omega)
        (first | cases eo92 | (injection eo92 with ea_ en_ ec_; (first | subst ea_ | (injection ea_ with ea_; subst ea_)); subst ec_; clear en_))
        have GB92 := Aside0.mk gb92
        have GG92 := Aside0.mk HG92
        clear gb92 gl92 HG92
        (first | simp only [add_plain] at hx184_0 | skip)
        (first | simp only [add_plain] at hx184_1 | skip)
        (first | simp only [add_plain] at hx184_2 | skip)
        (first | simp only [add_plain] at hx185_0 | skip)
        (first | simp only [add_plain] at hx185_1 | skip)
        (first | simp only [add_plain] at hx185_2 | skip)
        (first | simp only [add_plain] at hx186_0 | skip)
        (first | simp only [add_plain] at hx186_1 | skip)
        (first | simp only [add_plain] at hx186_2 | skip)
        (first | simp only [add_plain] at hx187_0 | skip)
        (first | simp only [add_plain] at hx187_1 | skip)
        (first | simp only [add_plain] at hx187_2 | skip)
        obtain ⟨ce92, hcl92, hM92, hcc92, hfr92⟩ := Kd.R_elem HO_6.out z81 (x10_3 : Int) p92 q92
        obtain rfl := k81_openM hM92
        have hx92_0 : World.cell? _ ⟨go92, (x10_3 : Int).toNat * 3, none⟩ = some (.int .i64 ((rd_T81 x6_3 x10_3).f0)) := hcc92 0 _ rfl
        have hx92_1 : World.cell? _ ⟨go92, (x10_3 : Int).toNat * 3 + 1, none⟩ = some (.int .i64 ((rd_T81 x6_3 x10_3).f1)) := hcc92 1 _ rfl
        have hx92_2 : World.cell? _ ⟨go92, (x10_3 : Int).toNat * 3 + 2, none⟩ = some (.int .i64 ((rd_T81 x6_3 x10_3).f2)) := hcc92 2 _ rfl
        have hf92_0 : World.frozen? _ ⟨go92, (x10_3 : Int).toNat * 3, none⟩ = false := hfr92 0
        have hf92_1 : World.frozen? _ ⟨go92, (x10_3 : Int).toNat * 3 + 1, none⟩ = false := hfr92 1
        have hf92_2 : World.frozen? _ ⟨go92, (x10_3 : Int).toNat * 3 + 2, none⟩ = false := hfr92 2
        clear hcl92 hcc92 hfr92 hM92
        replace p92 := eq_true p92
        replace q92 := eq_true q92
        obtain ⟨ce95, hcl95, hM95, hcc95, hfr95⟩ := Kd.R_elem HO_6.out z81 (x10_3 : Int) od_ (by have h_ : (x10_3 : Int) < ((x6_3.length : Int) : Int) := od_; first | exact h_ | (have e_ := (Kd.R_reads' HO_6.out).1; omega) | simpa using h_)
        obtain rfl := k81_openM hM95
        have HP95 := (Kd.R_seg HO_6.out (x10_3 : Int) od_ (by have h_ : (x10_3 : Int) < ((x6_3.length : Int) : Int) := od_; first | exact h_ | (have e_ := (Kd.R_reads' HO_6.out).1; omega) | simpa using h_) (seg := [.int .i64 ji91]) (j := 2) hcl95 hcc95 (show 3 ≤ 3 from by decide) (x' := (⟨(rd_T81 x6_3 x10_3).f0, (rd_T81 x6_3 x10_3).f1, ji91⟩ : S81)) (k81_mkM _ _ _ (⟨(rd_T81 x6_3 x10_3).f0, (rd_T81 x6_3 x10_3).f1, ji91⟩ : S81) ) (fun _ hk => hk)).1
        rw [← Ny188.out] at HP95
        have HQ95 := Aside0.mk HP95
        clear hcl95 hcc95 hfr95 hM95 HP95
        refine start_ (n := 17) (S := fun w' => w'.cell? ⟨go92, ((x10_3).toNat * 3), none⟩ = some (.int .i64 ((rd_T81 x6_3 x10_3).f0)) ∧ w'.cell? ⟨go92, ((x10_3).toNat * 3) + 1, none⟩ = some (.int .i64 ((rd_T81 x6_3 x10_3).f1)) ∧ w'.cell? ⟨go92, ((x10_3).toNat * 3) + 2, none⟩ = some (.int .i64 ((rd_T81 x6_3 x10_3).f2)) ∧ w'.cell? ⟨go92, ((ji86)).toNat * 3, none⟩ = some (.int .i64 ((rd_T81 x6_3 (ji86)).f0)) ∧ w'.cell? ⟨go92, ((ji86)).toNat * 3 + 1, none⟩ = some (.int .i64 ((rd_T81 x6_3 (ji86)).f1)) ∧ w'.cell? ⟨go92, ((ji86)).toNat * 3 + 2, none⟩ = some (.int .i64 ((rd_T81 x6_3 (ji86)).f2))) (ds := [16]) #[f_,f_,f_,f_,f_,f_,f_,f_,f_,f_,f_,f_,f_,f_,f_,f_,f_] (by kernel_rfl) rfl rfl ⟨hx186_0, hx186_1, hx186_2, hx187_0, hx187_1, hx187_2⟩ (fun hHeld => ?_); refine with_tabW impl_MergeTables.tab22 impl_MergeTables.bits22 (fun HT_ HW_ => ?_)
        generalize w93.drew = w94 at HO_6 HB GG92 HQ95 hf92_0 hf92_1 hf92_2 hx184_0 hx184_1 hx184_2 hx185_0 hx185_1 hx185_2 hx186_0 hx186_1 hx186_2 hx187_0 hx187_1 hx187_2 hx92_0 hx92_1 hx92_2 hHeld ⊢
        refine pv_ 0 144 HT_.out ?_
        refine pv_ 1 145 HT_.out ?_
        refine pv_ 2 146 HT_.out ?_
        refine pv_ 3 147 HT_.out ?_
        refine pv_ 4 148 HT_.out ?_
        refine pv_ 5 149 HT_.out ?_
        refine pv_ 7 151 HT_.out ?_
        refine pv_ 8 152 HT_.out ?_
        refine pv_ 9 153 HT_.out ?_
        refine pv_ 10 154 HT_.out ?_
        refine pv_ 11 155 HT_.out ?_
        refine tv6_ 6 150 HT_.out HW_.out hHeld ?_
        refine tv6_ 12 156 HT_.out HW_.out hHeld ?_
        refine pv_ 13 157 HT_.out ?_
        refine pv_ 14 158 HT_.out ?_
        refine pu_ 15 159 #[t_,t_,t_,t_,t_,t_,t_,t_,t_,t_,t_,t_,t_,t_,t_,t_,f_] HT_.out ?_
        refine last_ (i := 16) (N := none) #[t_,t_,t_,t_,t_,t_,t_,t_,t_,t_,t_,t_,t_,t_,t_,t_,t_] rfl rfl (one_of HT_.out (by kernel_rfl)) (by decide) (fun K hK => ?_)
        refine skip_ (w1 := ?_) (by rfl) rfl ?_ ?_
        rotate_left
        ·go_simp
         rfl
        refine hK.out _ _ ?_
        clear hK K
        refine done_ (done_of HT_.out (by kernel_rfl)) ?_
        try go_wp2
        (try simp only [← hl6_3])
        go_roundg k3
        case measure => have := HJ2.out; have := HK2.out; have := HK3.out; omega
        case rel => exact ⟨(y188), (wrap64 (x10_3 + 1)), rs_, H', ⟨by have := HJ2.out; have := HK2.out; have := HK3.out; omega⟩, ⟨by (try simp only [hl23_2]); (try simp only [hl6_3]); (with_reducible repeat (first | apply Kd.R_alloc | apply Kd.R_drewN | apply Kd.R_drew)); exact HQ95.out⟩, ⟨r3_ HB.out GB92.out⟩⟩
     rw [if_pos c18] at H
     have c18b0 := decide_eq_true c18
     clear c18
     by_cases c19 : 0 ≤ x25_2
     case neg =>
      rw [if_neg c19] at H
      exact absurd H (by simp)
     rw [if_pos c19] at H
     have c19b0 := decide_eq_true c19
     clear c19
     by_cases c20 : x25_2 < (x23_2.length : Int)
     case neg =>
      rw [if_neg c20] at H
      exact absurd H (by simp)
     rw [if_pos c20] at H
     have c20b0 := decide_eq_true c20
     clear c20
     have H' := Aside0.mk H
     clear H
     have p159 : 0 ≤ (x25_2 : Int) := od_
     have q159 : x25_2 < (x23_2.length : Int) := od_
     obtain ⟨ad159, e159, hx159_0, hx159_1, hx159_2⟩ := at_T81 (Kd.R_reads' HO_23.out).2.2 x25_2 p159 q159
     cases e159
     replace p159 := eq_true p159
     replace q159 := eq_true q159
     go_wp2_with (first | ((with_reducible refine gate_dst (N := 8) rfl ?_); refine box_event ?hg (N := 8) ?hd (cs := #[.int .i64 0, .int .i64 0, .int .i64 0]) (t := 81) ?hr ?_; (case hd => rfl); (case hg => rfl); (case hr => first | (go_simp; done) | (go_simp; rfl)); intro gb160 hg w21 hbox hb; replace HO_6 := Aside0.mk (Kd.R_below (Kd.R_elderB (rk_ HO_6.out) gb160 (Nat.le_of_eq hg.symm)) hb); replace HO_23 := Aside0.mk (Kd.R_below (Kd.R_elderB (rk_ HO_23.out) gb160 (Nat.le_of_eq hg.symm)) hb); have BK160 := Aside0.mk (hbox); have GW160 := Aside0.mk ((by rw [hg]; exact (below_size (bl_ HB.out)) : w.heap.size ≤ gb160)); have GE160 := Aside0.mk ((by rw [hg]; exact (below_size (bl_ HB.out)) : w.heap.size ≤ gb160)); replace HB := Aside0.mk (below_step (bl_ HB.out) hb); clear hb hbox hg; obtain ⟨hcz22_0, hcz22_1, hcz22_2, hfz22_0, hfz22_1, hfz22_2⟩ := bk3_ BK160.out; obtain ⟨Ao23, co23, eo23⟩ := Kd.R_slice HO_6.out; subst eo23))
     go_loopg [9] k2 (fun kq v9 w' => ∃ (x9_3 : Int), v9 = .int .i64 x9_3 ∧ Aside0 (impl_MergeTables.l1 kq x6_2 x9_3 x23_2 (y156.length : Int) x25_2 ((rd_T81 x23_2 x25_2).f0) ((rd_T81 x23_2 x25_2).f1) ((rd_T81 x23_2 x25_2).f2) = some (r1, r2)) ∧ Aside0 (kq ≤ k2) ∧ Aside0 (Kd.R k81 81 w' w.heap.size (fun k_ => some k_ ≠ ((.slice (some ad159) x23_2.length co17) : Value).ownBlock ∧ k_ ≠ gb160) (.slice Ao23 x6_2.length co23) x6_2) ∧ Aside0 (Kd.R k81 81 w' w.heap.size (fun k_ => some k_ ≠ ((.slice Ao23 x6_2.length co23) : Value).ownBlock ∧ k_ ≠ gb160) (.slice (some ad159) x23_2.length co17) x23_2) ∧ Aside0 (w'.heap[gb160]? = some (.cells #[.int .i64 ((rd_T81 x23_2 x25_2).f0), .int .i64 ((rd_T81 x23_2 x25_2).f1), .int .i64 ((rd_T81 x23_2 x25_2).f2)] 81 (0, 0))) ∧ Aside0 (Below w.heap.size w w'))
     case atStart => exact ⟨((x6_2.length : Int)), rs_, H', ⟨Nat.le_refl _⟩, ⟨by (try simp only [hl23_2]); (with_reducible repeat (first | apply Kd.R_alloc | apply Kd.R_drewN | apply Kd.R_drew)); exact Kd.R_mono (Kd.R_far (p := ⟨gb160, 2, none⟩) (Kd.R_far (p := ⟨gb160, 1, none⟩) (Kd.R_far (p := ⟨gb160, 0, none⟩) (Kd.R_mono HO_6.out (fun k_ hk => (⟨hk, hk.2⟩ : _ ∧ k_ ≠ gb160))) (fun _ hk => hk.2) (.int .i64 ((rd_T81 x23_2 x25_2).f0))) (fun _ hk => hk.2) (.int .i64 ((rd_T81 x23_2 x25_2).f1))) (fun _ hk => hk.2) (.int .i64 ((rd_T81 x23_2 x25_2).f2))) (fun _ hk => ⟨hk.1.1, hk.1.2⟩)⟩, ⟨by (try simp only [hl23_2]); (with_reducible repeat (first | apply Kd.R_alloc | apply Kd.R_drewN | apply Kd.R_drew)); exact Kd.R_mono (Kd.R_far (p := ⟨gb160, 2, none⟩) (Kd.R_far (p := ⟨gb160, 1, none⟩) (Kd.R_far (p := ⟨gb160, 0, none⟩) (Kd.R_mono HO_23.out (fun k_ hk => (⟨hk, hk.2⟩ : _ ∧ k_ ≠ gb160))) (fun _ hk => hk.2) (.int .i64 ((rd_T81 x23_2 x25_2).f0))) (fun _ hk => hk.2) (.int .i64 ((rd_T81 x23_2 x25_2).f1))) (fun _ hk => hk.2) (.int .i64 ((rd_T81 x23_2 x25_2).f2))) (fun _ hk => ⟨hk.1.1, hk.1.2⟩)⟩, ⟨by (try simp only [hl23_2]); (with_reducible repeat (first | refine blk_drewN ?_ _ | refine blk_drew ?_ | refine blk_alloc ?_ _)); exact bp3_ BK160.out⟩, ⟨r3_ HB.out GE160.out⟩⟩
     case round =>
      clear H'
      try clear c1
      try clear p1
      try clear q1
      try clear hx1
      try clear c2
      try clear p2
      try clear c5
      try clear c10
      try clear c11
      try clear c12
      try clear p15
      try clear q15
      try clear hx15
      try clear c18
      try clear c18b0
      try clear c19
      try clear c19b0
      try clear c20
      try clear c20b0
      try clear hcz22_0
      try clear hcz22_1
      try clear hcz22_2
      try clear hfz22_0
      try clear hfz22_1
      try clear hfz22_2
      try clear hx159_0
      try clear hx159_1
      try clear hx159_2
      try clear p159
      try clear p2
      try clear q159
      obtain ⟨x9_3, rfl, HA, HK3, HO_6, HO_23, BK160, HB⟩ := hrel
      cases gk with
      | zero => exact absurd HA.out (by simp [impl_MergeTables.l1])
      | succ k3 =>
       have H := HA.out
       clear HA
       simp only [impl_MergeTables.l1] at H
       by_cases c24 : x9_3 > 0
       case neg =>
        rw [if_neg c24] at H
        have c24b0 : decide (0 < x9_3) = false := decide_eq_false c24
        clear c24
        by_cases c68 : x6_2.length < 5864062014805
        case neg =>
         rw [if_neg c68] at H
         exact absurd H (by simp)
        rw [if_pos c68] at H
        have LMc68 := Aside0.mk c68
        clear c68
        obtain ⟨y179, hy179⟩ : ∃ y_ : List (S81), y_ = (x6_2 ++ [(⟨0, 0, 0⟩ : S81)]) := ⟨_, rfl⟩
        replace H : (if 0 ≤ x9_3 then (if x9_3 < (y179.length : Int) then (impl_MergeTables.l0 k3 ((shiftM_ y179 x9_3).set (x9_3 : Int).toNat (⟨((rd_T81 x23_2 x25_2).f0), ((rd_T81 x23_2 x25_2).f1), ((rd_T81 x23_2 x25_2).f2)⟩ : S81)) x23_2 (y156.length : Int) (wrap64 (x25_2 + 1))) else (none)) else (none)) = some (r1, r2) := by first | (rw [hy179]; with_reducible exact H) | (have H2_ := (Option.bind_some _ _).symm.trans H; rw [hy179]; with_reducible exact H2_) | (have H2_ := (Option.bind_some _ _).symm.trans H; with_reducible exact H2_) | with_reducible exact H | (rw [hy179]; exact H) | exact H
        have Ny179 := Aside0.mk hy179
        clear hy179
        by_cases c69 : 0 ≤ x9_3
        case neg =>
         rw [if_neg c69] at H
         exact absurd H (by simp)
        rw [if_pos c69] at H
        have c69b0 := decide_eq_true c69
        clear c69
        by_cases c70 : x9_3 < (y179.length : Int)
        case neg =>
         rw [if_neg c70] at H
         exact absurd H (by simp)
        rw [if_pos c70] at H
        have c70b0 := decide_eq_true c70
        clear c70
        obtain ⟨y182, hy182⟩ : ∃ y_ : List (S81), y_ = (shiftM_ y179 x9_3) := ⟨_, rfl⟩
        replace H : (impl_MergeTables.l0 k3 (y182.set (x9_3 : Int).toNat (⟨((rd_T81 x23_2 x25_2).f0), ((rd_T81 x23_2 x25_2).f1), ((rd_T81 x23_2 x25_2).f2)⟩ : S81)) x23_2 (y156.length : Int) (wrap64 (x25_2 + 1))) = some (r1, r2) := by first | (rw [hy182]; with_reducible exact H) | (have H2_ := (Option.bind_some _ _).symm.trans H; rw [hy182]; with_reducible exact H2_) | (have H2_ := (Option.bind_some _ _).symm.trans H; with_reducible exact H2_) | with_reducible exact H | (rw [hy182]; exact H) | exact H
        have Ny182 := Aside0.mk hy182
        clear hy182
        obtain ⟨y183, hy183⟩ : ∃ y_ : List (S81), y_ = (y182.set (x9_3 : Int).toNat (⟨((rd_T81 x23_2 x25_2).f0), ((rd_T81 x23_2 x25_2).f1), ((rd_T81 x23_2 x25_2).f2)⟩ : S81)) := ⟨_, rfl⟩
        replace H : (impl_MergeTables.l0 k3 y183 x23_2 (y156.length : Int) (wrap64 (x25_2 + 1))) = some (r1, r2) := by first | (rw [hy183]; with_reducible exact H) | (have H2_ := (Option.bind_some _ _).symm.trans H; rw [hy183]; with_reducible exact H2_) | (have H2_ := (Option.bind_some _ _).symm.trans H; with_reducible exact H2_) | with_reducible exact H | (rw [hy183]; exact H) | exact H
        have Ny183 := Aside0.mk hy183
        clear hy183
        have H' := Aside0.mk H
        clear H
        try go_wp2
        replace HO_6 := Aside0.mk (Kd.R_drew HO_6.out)
        replace HO_23 := Aside0.mk (Kd.R_drew HO_23.out)
        replace BK160 := Aside0.mk (blk_drew BK160.out)
        replace HB := Aside0.mk (below_drew1 HB.out)
        refine start_ (n := 35) (S := fun w' => True) (ds := []) #[f_,f_,f_,f_,f_,f_,f_,f_,f_,f_,f_,f_,f_,f_,f_,f_,f_,f_,f_,f_,f_,f_,f_,f_,f_,f_,f_,f_,f_,f_,f_,f_,f_,f_,f_] (by kernel_rfl) rfl rfl trivial (fun hHeld => ?_); refine with_tabW impl_MergeTables.tab8 impl_MergeTables.bits8 (fun HT_ HW_ => ?_)
        generalize wr.drew = w73 at HO_6 HO_23 BK160 HB hHeld ⊢
        refine pv_ 0 31 HT_.out ?_
        refine pv_ 1 32 HT_.out ?_
        refine pv_ 2 33 HT_.out ?_
        refine uv_ 3 34 HT_.out ?_
        refine uv_ 4 35 HT_.out ?_
        refine uv_ 5 36 HT_.out ?_
        refine uv_ 6 37 HT_.out ?_
        refine uv_ 7 38 HT_.out ?_
        refine uv_ 8 39 HT_.out ?_
        refine uv_ 9 40 HT_.out ?_
        refine uv_ 10 41 HT_.out ?_
        refine uv_ 11 42 HT_.out ?_
        refine uv_ 12 43 HT_.out ?_
        refine uv_ 13 44 HT_.out ?_
        refine uv_ 14 45 HT_.out ?_
        refine uv_ 15 46 HT_.out ?_
        refine uv_ 16 47 HT_.out ?_
        refine uv_ 17 48 HT_.out ?_
        refine uv_ 18 49 HT_.out ?_
        refine uv_ 19 50 HT_.out ?_
        refine uv_ 20 51 HT_.out ?_
        refine uv_ 21 52 HT_.out ?_
        refine uv_ 22 53 HT_.out ?_
        refine uv_ 23 54 HT_.out ?_
        refine uv_ 24 55 HT_.out ?_
        refine uv_ 25 56 HT_.out ?_
        refine uv_ 26 57 HT_.out ?_
        refine uv_ 27 58 HT_.out ?_
        refine uv_ 28 59 HT_.out ?_
        refine uv_ 29 60 HT_.out ?_
        refine uv_ 30 61 HT_.out ?_
        refine uv_ 31 62 HT_.out ?_
        refine uv_ 32 63 HT_.out ?_
        refine uv_ 33 64 HT_.out ?_
        refine pu_ 34 65 #[t_,t_,t_,t_,t_,t_,t_,t_,t_,t_,t_,t_,t_,t_,t_,t_,t_,t_,t_,t_,t_,t_,t_,t_,t_,t_,t_,t_,t_,t_,t_,t_,t_,t_,t_] HT_.out ?_
        refine done_ (done_of HT_.out (by kernel_rfl)) ?_
        try go_wp2
        replace HO_6 := Aside0.mk (Kd.R_drew HO_6.out)
        replace HO_23 := Aside0.mk (Kd.R_drew HO_23.out)
        replace BK160 := Aside0.mk (blk_drew BK160.out)
        replace HB := Aside0.mk (below_drew1 HB.out)
        refine start_ (n := 24) (S := fun w' => True) (ds := []) #[f_,f_,f_,f_,f_,f_,f_,f_,f_,f_,f_,f_,f_,f_,f_,f_,f_,f_,f_,f_,f_,f_,f_,f_] (by kernel_rfl) rfl rfl trivial (fun hHeld => ?_); refine with_tabW impl_MergeTables.tab10 impl_MergeTables.bits10 (fun HT_ HW_ => ?_)
        generalize w73.drew = w74 at HO_6 HO_23 BK160 HB hHeld ⊢
        refine pv_ 0 68 HT_.out ?_
        refine pv_ 1 69 HT_.out ?_
        refine pv_ 2 70 HT_.out ?_
        refine uv_ 3 71 HT_.out ?_
        refine uv_ 4 72 HT_.out ?_
        refine uv_ 5 73 HT_.out ?_
        refine uv_ 6 74 HT_.out ?_
        refine uv_ 7 75 HT_.out ?_
        refine uv_ 8 76 HT_.out ?_
        refine uv_ 9 77 HT_.out ?_
        refine uv_ 10 78 HT_.out ?_
        refine uv_ 11 79 HT_.out ?_
        refine pv_ 12 80 HT_.out ?_
        refine pv_ 13 81 HT_.out ?_
        refine uv_ 14 82 HT_.out ?_
        refine uv_ 15 83 HT_.out ?_
        refine uv_ 16 84 HT_.out ?_
        refine uv_ 17 85 HT_.out ?_
        refine uv_ 18 86 HT_.out ?_
        refine uv_ 19 87 HT_.out ?_
        refine uv_ 20 88 HT_.out ?_
        refine uv_ 21 89 HT_.out ?_
        refine uv_ 22 90 HT_.out ?_
        refine pu_ 23 91 #[t_,t_,t_,t_,t_,t_,t_,t_,t_,t_,t_,t_,t_,t_,t_,t_,t_,t_,t_,t_,t_,t_,t_,t_] HT_.out ?_
        refine done_ (done_of HT_.out (by kernel_rfl)) ?_
        try go_wp2_with (first | ((with_reducible refine gate_builtin (b := .append) (xs := #[.tmp 106, .tmp 108]) rfl ?_); at_builtin; refine Kd.R_append k81 (w0 := w) w.heap.size rfl (.tmp 106) (.tmp 108) 29 81 (.agg #[(.int .i64 0), (.int .i64 0), (.int .i64 0)]) 24 rfl Try.underlying29 info81 rfl (by decide) (by omega) (.slice Ao23 x6_2.length co23) x6_2 (⟨0, 0, 0⟩ : S81) [.int .i64 0, .int .i64 0, .int .i64 0] (fun k_ => some k_ ≠ (.slice (some ad159) x23_2.length co17 : Value).ownBlock ∧ k_ ≠ gb160) (fun _ => False) rfl rfl ?aP (fun _ hk => hk.elim) ?aF ?aO ?aB ?aS ?aL ?_; (case aP => exact k81_mkM _ _ _ (⟨0, 0, 0⟩ : S81)); (case aB => exact (r3_ HB.out GE160.out)); (case aF => exact (fun k_ hk => ⟨Kd.fresh' (Kd.R_lt (rk_ HO_23.out)) k_ hk, Kd.freshB (g := gb160) (o := .cells #[.int .i64 ((rd_T81 x23_2 x25_2).f0), .int .i64 ((rd_T81 x23_2 x25_2).f1), .int .i64 ((rd_T81 x23_2 x25_2).f2)] 81 (0, 0)) (r5_ BK160.out) k_ hk⟩)); (case aO => exact (rk_ HO_6.out)); (case aS => exact (below_size (r3_ HB.out GE160.out))); (case aL => have := LMc68.out; omega); intro v180 w75 ho hb hg hat; rw [← Ny179.out] at ho; have n0_ := Aside0.mk (Kd.R_after (ok := (fun k_ => k_ ≠ gb160)) (rk_ (Kd.R_mono HO_23.out (fun _ hk => ⟨hk.2, hk.1⟩))) hg hat); have n1_ := Aside0.mk (blk_grown (g := gb160) (o := .cells #[.int .i64 ((rd_T81 x23_2 x25_2).f0), .int .i64 ((rd_T81 x23_2 x25_2).f1), .int .i64 ((rd_T81 x23_2 x25_2).f2)] 81 (0, 0)) (r5_ BK160.out) hg (Kd.R_away HO_6.out (fun _ hk => hk.2))); have n2_ := Aside0.mk (hb); have n3_ := Aside0.mk (ho); clear HO_23; clear BK160; clear HB; clear HO_6; have HO_23 := n0_; have BK160 := n1_; have HB := n2_; have HO181 := n3_; clear n0_ n1_ n2_ n3_; clear ho hb hg hat))
        replace HO_23 := Aside0.mk (Kd.R_drew HO_23.out)
        replace HO181 := Aside0.mk (Kd.R_drew HO181.out)
        replace BK160 := Aside0.mk (blk_drew BK160.out)
        replace HB := Aside0.mk (below_drew1 HB.out)
        have p71 : 0 ≤ (x9_3 : Int) := od_
        have q71 : (x9_3 : Int) < ((y179.length : Int) : Int) := od_
        obtain ⟨go71, co71, eo71, gb71, gl71, cl71, HG71⟩ := Kd.R_form HO181.out (by omega)
        (first | cases eo71 | (injection eo71 with ea_ en_ ec_; (first | subst ea_ | (injection ea_ with ea_; subst ea_)); subst ec_; clear en_))
        have GB71 := Aside0.mk gb71
        have GG71 := Aside0.mk HG71
        clear gb71 gl71 HG71
        obtain ⟨i0_, hi0_, _, hsz_, _⟩ := info_parts info81
        have hyb_ := (Kd.R_reads' HO181.out).2.2.2.1
        have hwr_ : wrap64 (x9_3 + 1) = x9_3 + 1 := (by unfold wrap64; omega)
        have hcutP_ := cut_from (P := Try.prog) 29 81 .i64 Try.underlying29 hi0_ 3 hsz_ (some ⟨go71, 0, none⟩) y179.length co71 (wrap64 (x9_3 + 1)) (by rw [hwr_]; omega) (by rw [hwr_]; omega)
        obtain ⟨AP_, hAP_⟩ : ∃ A1, A1 = (if co71 = (wrap64 (x9_3 + 1)).toNat then (some ⟨go71, 0, none⟩ : Option Addr) else (some ⟨go71, 0, none⟩ : Option Addr).map (·.add ((wrap64 (x9_3 + 1)).toNat * 3))) := ⟨_, rfl⟩
        obtain ⟨nP_, hnP_⟩ : ∃ n1, n1 = y179.length - (wrap64 (x9_3 + 1)).toNat := ⟨_, rfl⟩
        obtain ⟨cP_, hcP_⟩ : ∃ c1, c1 = co71 - (wrap64 (x9_3 + 1)).toNat := ⟨_, rfl⟩
        rw [← hAP_, ← hnP_, ← hcP_] at hcutP_
        have hcutQ_ := cut_from (P := Try.prog) 29 81 .i64 Try.underlying29 hi0_ 3 hsz_ (some ⟨go71, 0, none⟩) y179.length co71 (x9_3) (by omega) (by omega)
        obtain ⟨AQ_, hAQ_⟩ : ∃ A1, A1 = (if co71 = (x9_3).toNat then (some ⟨go71, 0, none⟩ : Option Addr) else (some ⟨go71, 0, none⟩ : Option Addr).map (·.add ((x9_3).toNat * 3))) := ⟨_, rfl⟩
        obtain ⟨nQ_, hnQ_⟩ : ∃ n1, n1 = y179.length - (x9_3).toNat := ⟨_, rfl⟩
        obtain ⟨cQ_, hcQ_⟩ : ∃ c1, c1 = co71 - (x9_3).toNat := ⟨_, rfl⟩
        rw [← hAQ_, ← hnQ_, ← hcQ_] at hcutQ_
        rw [hwr_] at hAP_ hnP_
        clear hwr_ hyb_
        clear hcP_
        clear hcQ_
        have KP_ := Aside0.mk hAP_
        have KQ_ := Aside0.mk hAQ_
        have KN_ := Aside0.mk hnP_
        have KM_ := Aside0.mk hnQ_
        have KI_ := Aside0.mk (And.intro p71 q71)
        clear hAP_ hAQ_ hnP_ hnQ_ hi0_ hsz_
        replace p71 := eq_true p71
        replace q71 := eq_true q71
        refine start_ (n := 8) (S := fun w' => True) (ds := []) #[f_,f_,f_,f_,f_,f_,f_,f_] (by kernel_rfl) rfl rfl trivial (fun hHeld => ?_); refine with_tabW impl_MergeTables.tab13 impl_MergeTables.bits13 (fun HT_ HW_ => ?_)
        generalize w75.drew = w76 at HO_23 HO181 BK160 HB GG71 ⊢
        refine pv_ 0 110 HT_.out ?_
        refine pv_ 1 111 HT_.out ?_
        refine pv_ 2 112 HT_.out ?_
        refine pv_ 3 113 HT_.out ?_
        refine pv_ 4 114 HT_.out ?_
        refine pv_ 5 115 HT_.out ?_
        refine pu_ 6 116 #[t_,t_,t_,t_,t_,t_,t_,f_] HT_.out ?_
        refine one_ (i := 7) (N := some 117) #[t_,t_,t_,t_,t_,t_,t_,t_] rfl rfl (one_of HT_.out (by kernel_rfl)) (by decide) (fun K hK => ?_)
        obtain ⟨vc_, w78, hrun_, hp_, hg, hB_⟩ := copy_up_ HO181.out x9_3 KI_.out.1 KI_.out.2 AP_ KP_.out AQ_ KQ_.out nP_ nQ_ cP_ cQ_ KN_.out KM_.out 3
        refine event_step (by rfl) (v := vc_) (w1 := w78) ?hr_ ?_
        case hr_ => first | (go_simp; done) | (go_simp; rw [hrun_]; rfl)
        rw [← Ny182.out] at hp_
        replace HO_23 := Aside0.mk (Kd.R_mono (ok' := fun k_ => some k_ ≠ (.slice (some ⟨go71, 0, none⟩) y179.length co71 : Value).ownBlock ∧ k_ ≠ gb160) (Kd.R_after (v := (.slice (some ⟨go71, 0, none⟩) y179.length co71)) (v1 := (.slice (some ⟨go71, 0, none⟩) y179.length co71)) (ok := (fun k_ => k_ ≠ gb160)) (rk_ HO_23.out) hg (.inl rfl)) (fun _ hk => ⟨hk.2, hk.1⟩))
        replace BK160 := Aside0.mk (blk_grown (g := gb160) (o := .cells #[.int .i64 ((rd_T81 x23_2 x25_2).f0), .int .i64 ((rd_T81 x23_2 x25_2).f1), .int .i64 ((rd_T81 x23_2 x25_2).f2)] 81 (0, 0)) (r5_ BK160.out) hg (Kd.R_away HO181.out (fun _ hk => hk.2)))
        replace HO181 := Aside0.mk (hp_)
        replace HB := Aside0.mk (hB_ _ _ HB.out GB71.out)
        clear hg hp_ hB_ hrun_
        refine hK.out _ _ trivial (fun hHeld => ?_)
        clear hK K
        refine norm_ (a' := ?_) ?_ ?_
        rotate_left
        ·show Act.put _ (some 117) _ = _
         simp only [pz_]
         rfl
        refine done_ (done_of HT_.out (by kernel_rfl)) ?_
        obtain ⟨hcz79_0, hcz79_1, hcz79_2, hfz79_0, hfz79_1, hfz79_2⟩ := bk3_ BK160.out
        have p72 : 0 ≤ (x9_3 : Int) := od_
        have q72 : (x9_3 : Int) < ((y179.length : Int) : Int) := od_
        replace p72 := eq_true p72
        replace q72 := eq_true q72
        have HX80 := Aside0.mk (show Kd.R k81 81 w78 w.heap.size (fun k_ => some k_ ≠ (.slice (some ad159) x23_2.length co17 : Value).ownBlock ∧ k_ ≠ gb160) (.slice (some ⟨go71, 0, none⟩) y179.length co71) y182 from (rk_ HO181.out))
        obtain ⟨ce80, hcl80, hM80, hcc80, hfr80⟩ := Kd.R_elem HX80.out z81 (x9_3 : Int) od_ (by have h_ : (x9_3 : Int) < ((y179.length : Int) : Int) := od_; first | exact h_ | (have e_ := (Kd.R_reads' HO181.out).1; omega) | simpa using h_)
        obtain rfl := k81_openM hM80
        have HP80 := Kd.R_seg HX80.out (x9_3 : Int) od_ (by have h_ : (x9_3 : Int) < ((y179.length : Int) : Int) := od_; first | exact h_ | (have e_ := (Kd.R_reads' HO181.out).1; omega) | simpa using h_) (seg := [.int .i64 ((rd_T81 x23_2 x25_2).f0), .int .i64 ((rd_T81 x23_2 x25_2).f1), .int .i64 ((rd_T81 x23_2 x25_2).f2)]) (j := 0) hcl80 hcc80 (show 3 ≤ 3 from by decide) (x' := (⟨((rd_T81 x23_2 x25_2).f0), ((rd_T81 x23_2 x25_2).f1), ((rd_T81 x23_2 x25_2).f2)⟩ : S81)) (k81_mkM _ _ _ (⟨((rd_T81 x23_2 x25_2).f0), ((rd_T81 x23_2 x25_2).f1), ((rd_T81 x23_2 x25_2).f2)⟩ : S81) ) (fun _ hk => hk)
        have hx80_0 := hcc80 0 _ rfl
        (try simp only [show (k81).sz = 3 from rfl, Nat.mul_one, Nat.add_zero] at hx80_0)
        have hf80_0 := hfr80 0
        (try simp only [show (k81).sz = 3 from rfl, Nat.mul_one, Nat.add_zero] at hf80_0)
        have hx80_1 := hcc80 1 _ rfl
        (try simp only [show (k81).sz = 3 from rfl, Nat.mul_one, Nat.add_zero] at hx80_1)
        have hf80_1 := hfr80 1
        (try simp only [show (k81).sz = 3 from rfl, Nat.mul_one, Nat.add_zero] at hf80_1)
        have hx80_2 := hcc80 2 _ rfl
        (try simp only [show (k81).sz = 3 from rfl, Nat.mul_one, Nat.add_zero] at hx80_2)
        have hf80_2 := hfr80 2
        (try simp only [show (k81).sz = 3 from rfl, Nat.mul_one, Nat.add_zero] at hf80_2)
        clear hcl80 hcc80 hfr80 hM80
        try go_wp2_with (first | ((with_reducible refine gate_store (t := 81) (p := 121) rfl ?_); refine store_event (t := 81) (p := 121) (v := ?vo_w81) (w1 := (((w78.setCell ⟨go71, (x9_3 : Int).toNat * 3, none⟩ (.int .i64 ((rd_T81 x23_2 x25_2).f0))).setCell ⟨go71, (x9_3 : Int).toNat * 3 + 1, none⟩ (.int .i64 ((rd_T81 x23_2 x25_2).f1))).setCell ⟨go71, (x9_3 : Int).toNat * 3 + 2, none⟩ (.int .i64 ((rd_T81 x23_2 x25_2).f2)))) ?hg ?ho ?hn ?hr ?_; (case ho => rfl); (case hg => rfl); (case hn => rfl); (case hr => first | (go_simp; done) | (go_simp; rfl)); intro w81 hw; have hg : w78.grownBy w81 (some go71) := (by rw [hw]; exact HP80.2); have hp_ : Kd.R k81 81 w81 w.heap.size (fun k_ => some k_ ≠ (.slice (some ad159) x23_2.length co17 : Value).ownBlock ∧ k_ ≠ gb160) (.slice (some ⟨go71, 0, none⟩) y179.length co71) y183 := (by rw [hw, Ny183.out]; exact HP80.1); clear HP80; replace HO_23 := Aside0.mk (Kd.R_after (v := (.slice (some ⟨go71, 0, none⟩) y179.length co71)) (v1 := (.slice (some ⟨go71, 0, none⟩) y179.length co71)) (ok := (fun k_ => k_ ≠ gb160)) (rk_ (Kd.R_mono HO_23.out (fun _ hk => ⟨hk.2, hk.1⟩))) hg (.inl rfl)); replace BK160 := Aside0.mk (blk_grown (g := gb160) (o := .cells #[.int .i64 ((rd_T81 x23_2 x25_2).f0), .int .i64 ((rd_T81 x23_2 x25_2).f1), .int .i64 ((rd_T81 x23_2 x25_2).f2)] 81 (0, 0)) (r5_ BK160.out) hg (Kd.R_away HO181.out (fun _ hk => hk.2))); replace HO181 := Aside0.mk (hp_); replace HB := Aside0.mk ((by rw [hw]; exact below_set (below_set (below_set (HB.out) GB71.out) GB71.out) GB71.out : Below w.heap.size w w81)); clear hg hw hp_))
        (try simp only [← hl23_2])
        go_roundg k3
        case measure => have := HJ2.out; have := HK2.out; have := HK3.out; omega
        case rel => exact ⟨(y183), (x23_2), (wrap64 (x25_2 + 1)), rs_, H', ⟨by have := HJ2.out; have := HK2.out; have := HK3.out; omega⟩, ⟨by (try simp only [hl23_2]); (with_reducible repeat (first | apply Kd.R_alloc | apply Kd.R_drewN | apply Kd.R_drew)); exact Kd.R_mono HO181.out (fun _ hk => hk.1)⟩, ⟨by (try simp only [hl23_2]); (with_reducible repeat (first | apply Kd.R_alloc | apply Kd.R_drewN | apply Kd.R_drew)); exact Kd.R_mono HO_23.out (fun _ hk => hk.2)⟩, ⟨r3_ HB.out GE160.out⟩⟩
       rw [if_pos c24] at H
       have c24b0 : decide (0 < x9_3) = true := decide_eq_true c24
       clear c24
       obtain ⟨ji25, hji25⟩ : ∃ j_ : Int, (wrap64 (x9_3 - 1)) = j_ := ⟨_, rfl⟩
       replace H : (if 0 ≤ (ji25) then (if (ji25) < (x6_2.length : Int) then (if ((rd_T81 x6_2 (ji25)).f0) > ((rd_T81 x23_2 x25_2).f0) then (impl_MergeTables.l1 k3 x6_2 ji25 x23_2 (y156.length : Int) x25_2 ((rd_T81 x23_2 x25_2).f0) ((rd_T81 x23_2 x25_2).f1) ((rd_T81 x23_2 x25_2).f2)) else (if ((rd_T81 x6_2 (ji25)).f0) = ((rd_T81 x23_2 x25_2).f0) then (if ((rd_T81 x6_2 (ji25)).f1) > ((rd_T81 x23_2 x25_2).f1) then (impl_MergeTables.l1 k3 x6_2 ji25 x23_2 (y156.length : Int) x25_2 ((rd_T81 x23_2 x25_2).f0) ((rd_T81 x23_2 x25_2).f1) ((rd_T81 x23_2 x25_2).f2)) else (if ((rd_T81 x6_2 (ji25)).f1) = ((rd_T81 x23_2 x25_2).f1) then (impl_MergeTables.l0 k3 (x6_2.set ((ji25) : Int).toNat (⟨(rd_T81 x6_2 (ji25)).f0, (rd_T81 x6_2 (ji25)).f1, mx ((rd_T81 x6_2 (ji25)).f2) ((rd_T81 x23_2 x25_2).f2)⟩ : S81)) x23_2 (y156.length : Int) (wrap64 (x25_2 + 1))) else (if x6_2.length < 5864062014805 then ((some (x6_2 ++ [(⟨0, 0, 0⟩ : S81)] : List (S81))).bind fun y168 => (if 0 ≤ x9_3 then (if x9_3 < (y168.length : Int) then (impl_MergeTables.l0 k3 ((shiftM_ y168 x9_3).set (x9_3 : Int).toNat (⟨((rd_T81 x23_2 x25_2).f0), ((rd_T81 x23_2 x25_2).f1), ((rd_T81 x23_2 x25_2).f2)⟩ : S81)) x23_2 (y156.length : Int) (wrap64 (x25_2 + 1))) else (none)) else (none))) else (none)))) else (if x6_2.length < 5864062014805 then ((some (x6_2 ++ [(⟨0, 0, 0⟩ : S81)] : List (S81))).bind fun y174 => (if 0 ≤ x9_3 then (if x9_3 < (y174.length : Int) then (impl_MergeTables.l0 k3 ((shiftM_ y174 x9_3).set (x9_3 : Int).toNat (⟨((rd_T81 x23_2 x25_2).f0), ((rd_T81 x23_2 x25_2).f1), ((rd_T81 x23_2 x25_2).f2)⟩ : S81)) x23_2 (y156.length : Int) (wrap64 (x25_2 + 1))) else (none)) else (none))) else (none)))) else (none)) else (none)) = some (r1, r2) := by first | (rw [hji25] at H; exact H) | (simp only [hji25] at H ⊢; exact H)
       have hji25w : (IntKind.i64.wrap (x9_3 - 1)) = ji25 := (i64_w _).trans hji25
       by_cases c26 : 0 ≤ (ji25)
       case neg =>
        rw [if_neg c26] at H
        exact absurd H (by simp)
       rw [if_pos c26] at H
       have c26b0 := decide_eq_true c26
       clear c26
       by_cases c27 : (ji25) < (x6_2.length : Int)
       case neg =>
        rw [if_neg c27] at H
        exact absurd H (by simp)
       rw [if_pos c27] at H
       have c27b0 := decide_eq_true c27
       clear c27
       by_cases c28 : ((rd_T81 x6_2 (ji25)).f0) > ((rd_T81 x23_2 x25_2).f0)
       case pos =>
        rw [if_pos c28] at H
        have c28b0 : decide (((rd_T81 x23_2 x25_2).f0) < ((rd_T81 x6_2 (ji25)).f0)) = true := decide_eq_true c28
        clear c28
        have H' := Aside0.mk H
        clear H
        try go_wp2
        replace HO_6 := Aside0.mk (Kd.R_drew HO_6.out)
        replace HO_23 := Aside0.mk (Kd.R_drew HO_23.out)
        replace BK160 := Aside0.mk (blk_drew BK160.out)
        replace HB := Aside0.mk (below_drew1 HB.out)
        have p161 : 0 ≤ ((ji25) : Int) := od_
        have q161 : (ji25) < (x6_2.length : Int) := od_
        obtain ⟨ad161, e161, hx161_0, hx161_1, hx161_2⟩ := at_T81 (Kd.R_reads' HO_6.out).2.2 (ji25) p161 q161
        cases e161
        replace p161 := eq_true p161
        replace q161 := eq_true q161
        refine start_ (n := 35) (S := fun w' => w'.cell? ⟨gb160, 0, none⟩ = some (.int .i64 ((rd_T81 x23_2 x25_2).f0)) ∧ w'.cell? ⟨gb160, 1, none⟩ = some (.int .i64 ((rd_T81 x23_2 x25_2).f1)) ∧ w'.cell? ⟨gb160, 2, none⟩ = some (.int .i64 ((rd_T81 x23_2 x25_2).f2)) ∧ w'.cell? (ad161.add (((ji25)).toNat * 3)) = some (.int .i64 ((rd_T81 x6_2 (ji25)).f0)) ∧ w'.cell? ⟨(ad161.add (((ji25)).toNat * 3)).block, (ad161.add (((ji25)).toNat * 3)).off + 1, none⟩ = some (.int .i64 ((rd_T81 x6_2 (ji25)).f1)) ∧ w'.cell? ⟨(ad161.add (((ji25)).toNat * 3)).block, (ad161.add (((ji25)).toNat * 3)).off + 2, none⟩ = some (.int .i64 ((rd_T81 x6_2 (ji25)).f2))) (ds := []) #[f_,f_,f_,f_,f_,f_,f_,f_,f_,f_,f_,f_,f_,f_,f_,f_,f_,f_,f_,f_,f_,f_,f_,f_,f_,f_,f_,f_,f_,f_,f_,f_,f_,f_,f_] (by kernel_rfl) rfl rfl ⟨(blk_cell BK160.out 0).trans rfl, (blk_cell BK160.out 1).trans rfl, (blk_cell BK160.out 2).trans rfl, hx161_0, hx161_1, hx161_2⟩ (fun hHeld => ?_); refine with_tabW impl_MergeTables.tab8 impl_MergeTables.bits8 (fun HT_ HW_ => ?_)
        generalize wr.drew = w29 at HO_6 HO_23 BK160 HB hx161_0 hx161_1 hx161_2 hHeld ⊢
        refine pv_ 0 31 HT_.out ?_
        refine pv_ 1 32 HT_.out ?_
        refine pv_ 2 33 HT_.out ?_
        refine pv_ 3 34 HT_.out ?_
        refine pv_ 4 35 HT_.out ?_
        refine pv_ 5 36 HT_.out ?_
        refine pv_ 6 37 HT_.out ?_
        refine pv_ 7 38 HT_.out ?_
        refine pv_ 9 40 HT_.out ?_
        refine tv6_ 8 39 HT_.out HW_.out hHeld ?_
        refine tv6_ 10 41 HT_.out HW_.out hHeld ?_
        refine pv_ 11 42 HT_.out ?_
        refine pv_ 12 43 HT_.out ?_
        refine uv_ 13 44 HT_.out ?_
        refine uv_ 14 45 HT_.out ?_
        refine uv_ 15 46 HT_.out ?_
        refine uv_ 16 47 HT_.out ?_
        refine uv_ 17 48 HT_.out ?_
        refine uv_ 18 49 HT_.out ?_
        refine uv_ 19 50 HT_.out ?_
        refine uv_ 20 51 HT_.out ?_
        refine uv_ 21 52 HT_.out ?_
        refine uv_ 22 53 HT_.out ?_
        refine uv_ 23 54 HT_.out ?_
        refine uv_ 24 55 HT_.out ?_
        refine uv_ 25 56 HT_.out ?_
        refine uv_ 26 57 HT_.out ?_
        refine uv_ 27 58 HT_.out ?_
        refine uv_ 28 59 HT_.out ?_
        refine uv_ 29 60 HT_.out ?_
        refine uv_ 30 61 HT_.out ?_
        refine uv_ 31 62 HT_.out ?_
        refine uv_ 32 63 HT_.out ?_
        refine pv_ 33 64 HT_.out ?_
        refine pu_ 34 65 #[t_,t_,t_,t_,t_,t_,t_,t_,t_,t_,t_,t_,t_,t_,t_,t_,t_,t_,t_,t_,t_,t_,t_,t_,t_,t_,t_,t_,t_,t_,t_,t_,t_,t_,t_] HT_.out ?_
        refine done_ (done_of HT_.out (by kernel_rfl)) ?_
        try go_wp2
        go_roundg k3
        case measure => have := HJ2.out; have := HK2.out; have := HK3.out; omega
        case rel => exact ⟨(ji25), (by first | rfl | (simp; done) | (simp only [← hji25] <;> (first | rfl | simp)) | (simp [*]; done)), H', ⟨by have := HJ2.out; have := HK2.out; have := HK3.out; omega⟩, ⟨by (try simp only [hl23_2]); (with_reducible repeat (first | apply Kd.R_alloc | apply Kd.R_drewN | apply Kd.R_drew)); exact HO_6.out⟩, ⟨by (try simp only [hl23_2]); (with_reducible repeat (first | apply Kd.R_alloc | apply Kd.R_drewN | apply Kd.R_drew)); exact HO_23.out⟩, ⟨by (try simp only [hl23_2]); (with_reducible repeat (first | refine blk_drewN ?_ _ | refine blk_drew ?_ | refine blk_alloc ?_ _)); exact BK160.out⟩, ⟨r3_ HB.out GE160.out⟩⟩
       rw [if_neg c28] at H
       have c28b0 : decide (((rd_T81 x23_2 x25_2).f0) < ((rd_T81 x6_2 (ji25)).f0)) = false := decide_eq_false c28
       clear c28
       by_cases c30 : ((rd_T81 x6_2 (ji25)).f0) = ((rd_T81 x23_2 x25_2).f0)
       case neg =>
        rw [if_neg c30] at H
        have c30b0 := beq_eq_false_iff_ne.mpr c30
        have c30b1 := bne_iff_ne.mpr c30
        by_cases c54 : x6_2.length < 5864062014805
        case neg =>
         rw [if_neg c54] at H
         exact absurd H (by simp)
        rw [if_pos c54] at H
        have LMc54 := Aside0.mk c54
        clear c54
        obtain ⟨y174, hy174⟩ : ∃ y_ : List (S81), y_ = (x6_2 ++ [(⟨0, 0, 0⟩ : S81)]) := ⟨_, rfl⟩
        replace H : (if 0 ≤ x9_3 then (if x9_3 < (y174.length : Int) then (impl_MergeTables.l0 k3 ((shiftM_ y174 x9_3).set (x9_3 : Int).toNat (⟨((rd_T81 x23_2 x25_2).f0), ((rd_T81 x23_2 x25_2).f1), ((rd_T81 x23_2 x25_2).f2)⟩ : S81)) x23_2 (y156.length : Int) (wrap64 (x25_2 + 1))) else (none)) else (none)) = some (r1, r2) := by first | (rw [hy174]; with_reducible exact H) | (have H2_ := (Option.bind_some _ _).symm.trans H; rw [hy174]; with_reducible exact H2_) | (have H2_ := (Option.bind_some _ _).symm.trans H; with_reducible exact H2_) | with_reducible exact H | (rw [hy174]; exact H) | exact H
        have Ny174 := Aside0.mk hy174
        clear hy174
        by_cases c55 : 0 ≤ x9_3
        case neg =>
         rw [if_neg c55] at H
         exact absurd H (by simp)
        rw [if_pos c55] at H
        have c55b0 := decide_eq_true c55
        clear c55
        by_cases c56 : x9_3 < (y174.length : Int)
        case neg =>
         rw [if_neg c56] at H
         exact absurd H (by simp)
        rw [if_pos c56] at H
        have c56b0 := decide_eq_true c56
        clear c56
        obtain ⟨y177, hy177⟩ : ∃ y_ : List (S81), y_ = (shiftM_ y174 x9_3) := ⟨_, rfl⟩
        replace H : (impl_MergeTables.l0 k3 (y177.set (x9_3 : Int).toNat (⟨((rd_T81 x23_2 x25_2).f0), ((rd_T81 x23_2 x25_2).f1), ((rd_T81 x23_2 x25_2).f2)⟩ : S81)) x23_2 (y156.length : Int) (wrap64 (x25_2 + 1))) = some (r1, r2) := by first | (rw [hy177]; with_reducible exact H) | (have H2_ := (Option.bind_some _ _).symm.trans H; rw [hy177]; with_reducible exact H2_) | (have H2_ := (Option.bind_some _ _).symm.trans H; with_reducible exact H2_) | with_reducible exact H | (rw [hy177]; exact H) | exact H
        have Ny177 := Aside0.mk hy177
        clear hy177
        obtain ⟨y178, hy178⟩ : ∃ y_ : List (S81), y_ = (y177.set (x9_3 : Int).toNat (⟨((rd_T81 x23_2 x25_2).f0), ((rd_T81 x23_2 x25_2).f1), ((rd_T81 x23_2 x25_2).f2)⟩ : S81)) := ⟨_, rfl⟩
        replace H : (impl_MergeTables.l0 k3 y178 x23_2 (y156.length : Int) (wrap64 (x25_2 + 1))) = some (r1, r2) := by first | (rw [hy178]; with_reducible exact H) | (have H2_ := (Option.bind_some _ _).symm.trans H; rw [hy178]; with_reducible exact H2_) | (have H2_ := (Option.bind_some _ _).symm.trans H; with_reducible exact H2_) | with_reducible exact H | (rw [hy178]; exact H) | exact H
        have Ny178 := Aside0.mk hy178
        clear hy178
        have H' := Aside0.mk H
        clear H
        try go_wp2
        replace HO_6 := Aside0.mk (Kd.R_drew HO_6.out)
        replace HO_23 := Aside0.mk (Kd.R_drew HO_23.out)
        replace BK160 := Aside0.mk (blk_drew BK160.out)
        replace HB := Aside0.mk (below_drew1 HB.out)
        have p161 : 0 ≤ ((ji25) : Int) := od_
        have q161 : (ji25) < (x6_2.length : Int) := od_
        obtain ⟨ad161, e161, hx161_0, hx161_1, hx161_2⟩ := at_T81 (Kd.R_reads' HO_6.out).2.2 (ji25) p161 q161
        cases e161
        replace p161 := eq_true p161
        replace q161 := eq_true q161
        have p162 : 0 ≤ ((ji25) : Int) := od_
        have q162 : (ji25) < (x6_2.length : Int) := od_
        obtain ⟨ad162, e162, hx162_0, hx162_1, hx162_2⟩ := at_T81 (Kd.R_reads' HO_6.out).2.2 (ji25) p162 q162
        obtain rfl : ad161 = ad162 := (by injection e162)
        replace p162 := eq_true p162
        replace q162 := eq_true q162
        refine start_ (n := 35) (S := fun w' => w'.cell? ⟨gb160, 0, none⟩ = some (.int .i64 ((rd_T81 x23_2 x25_2).f0)) ∧ w'.cell? ⟨gb160, 1, none⟩ = some (.int .i64 ((rd_T81 x23_2 x25_2).f1)) ∧ w'.cell? ⟨gb160, 2, none⟩ = some (.int .i64 ((rd_T81 x23_2 x25_2).f2)) ∧ w'.cell? (ad161.add (((ji25)).toNat * 3)) = some (.int .i64 ((rd_T81 x6_2 (ji25)).f0)) ∧ w'.cell? ⟨(ad161.add (((ji25)).toNat * 3)).block, (ad161.add (((ji25)).toNat * 3)).off + 1, none⟩ = some (.int .i64 ((rd_T81 x6_2 (ji25)).f1)) ∧ w'.cell? ⟨(ad161.add (((ji25)).toNat * 3)).block, (ad161.add (((ji25)).toNat * 3)).off + 2, none⟩ = some (.int .i64 ((rd_T81 x6_2 (ji25)).f2)) ∧ w'.cell? (ad161.add (((ji25)).toNat * 3)) = some (.int .i64 ((rd_T81 x6_2 (ji25)).f0)) ∧ w'.cell? ⟨(ad161.add (((ji25)).toNat * 3)).block, (ad161.add (((ji25)).toNat * 3)).off + 1, none⟩ = some (.int .i64 ((rd_T81 x6_2 (ji25)).f1)) ∧ w'.cell? ⟨(ad161.add (((ji25)).toNat * 3)).block, (ad161.add (((ji25)).toNat * 3)).off + 2, none⟩ = some (.int .i64 ((rd_T81 x6_2 (ji25)).f2))) (ds := []) #[f_,f_,f_,f_,f_,f_,f_,f_,f_,f_,f_,f_,f_,f_,f_,f_,f_,f_,f_,f_,f_,f_,f_,f_,f_,f_,f_,f_,f_,f_,f_,f_,f_,f_,f_] (by kernel_rfl) rfl rfl ⟨(blk_cell BK160.out 0).trans rfl, (blk_cell BK160.out 1).trans rfl, (blk_cell BK160.out 2).trans rfl, hx161_0, hx161_1, hx161_2, hx162_0, hx162_1, hx162_2⟩ (fun hHeld => ?_); refine with_tabW impl_MergeTables.tab8 impl_MergeTables.bits8 (fun HT_ HW_ => ?_)
        generalize wr.drew = w59 at HO_6 HO_23 BK160 HB hx161_0 hx161_1 hx161_2 hx162_0 hx162_1 hx162_2 hHeld ⊢
        refine pv_ 0 31 HT_.out ?_
        refine pv_ 1 32 HT_.out ?_
        refine pv_ 2 33 HT_.out ?_
        refine pv_ 3 34 HT_.out ?_
        refine pv_ 4 35 HT_.out ?_
        refine pv_ 5 36 HT_.out ?_
        refine pv_ 6 37 HT_.out ?_
        refine pv_ 7 38 HT_.out ?_
        refine pv_ 9 40 HT_.out ?_
        refine tv9_ 8 39 HT_.out HW_.out hHeld ?_
        refine tv9_ 10 41 HT_.out HW_.out hHeld ?_
        refine pv_ 11 42 HT_.out ?_
        refine pv_ 12 43 HT_.out ?_
        refine pv_ 13 44 HT_.out ?_
        refine pv_ 14 45 HT_.out ?_
        refine pv_ 15 46 HT_.out ?_
        refine pv_ 16 47 HT_.out ?_
        refine pv_ 17 48 HT_.out ?_
        refine pv_ 19 50 HT_.out ?_
        refine tv9_ 18 49 HT_.out HW_.out hHeld ?_
        refine tv9_ 20 51 HT_.out HW_.out hHeld ?_
        refine pv_ 21 52 HT_.out ?_
        refine pv_ 22 53 HT_.out ?_
        refine uv_ 23 54 HT_.out ?_
        refine uv_ 24 55 HT_.out ?_
        refine uv_ 25 56 HT_.out ?_
        refine uv_ 26 57 HT_.out ?_
        refine uv_ 27 58 HT_.out ?_
        refine uv_ 28 59 HT_.out ?_
        refine uv_ 29 60 HT_.out ?_
        refine uv_ 30 61 HT_.out ?_
        refine uv_ 31 62 HT_.out ?_
        refine pv_ 32 63 HT_.out ?_
        refine pv_ 33 64 HT_.out ?_
        refine pu_ 34 65 #[t_,t_,t_,t_,t_,t_,t_,t_,t_,t_,t_,t_,t_,t_,t_,t_,t_,t_,t_,t_,t_,t_,t_,t_,t_,t_,t_,t_,t_,t_,t_,t_,t_,t_,t_] HT_.out ?_
        refine done_ (done_of HT_.out (by kernel_rfl)) ?_
        try go_wp2
        replace HO_6 := Aside0.mk (Kd.R_drew HO_6.out)
        replace HO_23 := Aside0.mk (Kd.R_drew HO_23.out)
        replace BK160 := Aside0.mk (blk_drew BK160.out)
        replace HB := Aside0.mk (below_drew1 HB.out)
        have p173 : 0 ≤ ((ji25) : Int) := od_
        have q173 : (ji25) < (x6_2.length : Int) := od_
        obtain ⟨ad173, e173, hx173_0, hx173_1, hx173_2⟩ := at_T81 (Kd.R_reads' HO_6.out).2.2 (ji25) p173 q173
        obtain rfl : ad161 = ad173 := (by injection e173)
        replace p173 := eq_true p173
        replace q173 := eq_true q173
        refine start_ (n := 24) (S := fun w' => w'.cell? ⟨gb160, 0, none⟩ = some (.int .i64 ((rd_T81 x23_2 x25_2).f0)) ∧ w'.cell? ⟨gb160, 1, none⟩ = some (.int .i64 ((rd_T81 x23_2 x25_2).f1)) ∧ w'.cell? ⟨gb160, 2, none⟩ = some (.int .i64 ((rd_T81 x23_2 x25_2).f2)) ∧ w'.cell? (ad161.add (((ji25)).toNat * 3)) = some (.int .i64 ((rd_T81 x6_2 (ji25)).f0)) ∧ w'.cell? ⟨(ad161.add (((ji25)).toNat * 3)).block, (ad161.add (((ji25)).toNat * 3)).off + 1, none⟩ = some (.int .i64 ((rd_T81 x6_2 (ji25)).f1)) ∧ w'.cell? ⟨(ad161.add (((ji25)).toNat * 3)).block, (ad161.add (((ji25)).toNat * 3)).off + 2, none⟩ = some (.int .i64 ((rd_T81 x6_2 (ji25)).f2))) (ds := []) #[f_,f_,f_,f_,f_,f_,f_,f_,f_,f_,f_,f_,f_,f_,f_,f_,f_,f_,f_,f_,f_,f_,f_,f_] (by kernel_rfl) rfl rfl ⟨(blk_cell BK160.out 0).trans rfl, (blk_cell BK160.out 1).trans rfl, (blk_cell BK160.out 2).trans rfl, hx173_0, hx173_1, hx173_2⟩ (fun hHeld => ?_); refine with_tabW impl_MergeTables.tab10 impl_MergeTables.bits10 (fun HT_ HW_ => ?_)
        generalize w59.drew = w60 at HO_6 HO_23 BK160 HB hx173_0 hx173_1 hx173_2 hHeld ⊢
        refine pv_ 0 68 HT_.out ?_
        refine pv_ 1 69 HT_.out ?_
        refine pv_ 2 70 HT_.out ?_
        refine pv_ 3 71 HT_.out ?_
        refine pv_ 4 72 HT_.out ?_
        refine pv_ 5 73 HT_.out ?_
        refine pv_ 6 74 HT_.out ?_
        refine pv_ 7 75 HT_.out ?_
        refine pv_ 9 77 HT_.out ?_
        refine tv6_ 8 76 HT_.out HW_.out hHeld ?_
        refine tv6_ 10 78 HT_.out HW_.out hHeld ?_
        refine pv_ 11 79 HT_.out ?_
        refine pv_ 12 80 HT_.out ?_
        refine pv_ 13 81 HT_.out ?_
        refine uv_ 14 82 HT_.out ?_
        refine uv_ 15 83 HT_.out ?_
        refine uv_ 16 84 HT_.out ?_
        refine uv_ 17 85 HT_.out ?_
        refine uv_ 18 86 HT_.out ?_
        refine uv_ 19 87 HT_.out ?_
        refine uv_ 20 88 HT_.out ?_
        refine uv_ 21 89 HT_.out ?_
        refine uv_ 22 90 HT_.out ?_
        refine pu_ 23 91 #[t_,t_,t_,t_,t_,t_,t_,t_,t_,t_,t_,t_,t_,t_,t_,t_,t_,t_,t_,t_,t_,t_,t_,t_] HT_.out ?_
        refine done_ (done_of HT_.out (by kernel_rfl)) ?_
        try go_wp2_with (first | ((with_reducible refine gate_builtin (b := .append) (xs := #[.tmp 106, .tmp 108]) rfl ?_); at_builtin; refine Kd.R_append k81 (w0 := w) w.heap.size rfl (.tmp 106) (.tmp 108) 29 81 (.agg #[(.int .i64 0), (.int .i64 0), (.int .i64 0)]) 24 rfl Try.underlying29 info81 rfl (by decide) (by omega) (.slice (some ad161) x6_2.length co23) x6_2 (⟨0, 0, 0⟩ : S81) [.int .i64 0, .int .i64 0, .int .i64 0] (fun k_ => some k_ ≠ (.slice (some ad159) x23_2.length co17 : Value).ownBlock ∧ k_ ≠ gb160) (fun _ => False) rfl rfl ?aP (fun _ hk => hk.elim) ?aF ?aO ?aB ?aS ?aL ?_; (case aP => exact k81_mkM _ _ _ (⟨0, 0, 0⟩ : S81)); (case aB => exact (r3_ HB.out GE160.out)); (case aF => exact (fun k_ hk => ⟨Kd.fresh' (Kd.R_lt (rk_ HO_23.out)) k_ hk, Kd.freshB (g := gb160) (o := .cells #[.int .i64 ((rd_T81 x23_2 x25_2).f0), .int .i64 ((rd_T81 x23_2 x25_2).f1), .int .i64 ((rd_T81 x23_2 x25_2).f2)] 81 (0, 0)) (r5_ BK160.out) k_ hk⟩)); (case aO => exact (rk_ HO_6.out)); (case aS => exact (below_size (r3_ HB.out GE160.out))); (case aL => have := LMc54.out; omega); intro v175 w61 ho hb hg hat; rw [← Ny174.out] at ho; have n0_ := Aside0.mk (Kd.R_after (ok := (fun k_ => k_ ≠ gb160)) (rk_ (Kd.R_mono HO_23.out (fun _ hk => ⟨hk.2, hk.1⟩))) hg hat); have n1_ := Aside0.mk (blk_grown (g := gb160) (o := .cells #[.int .i64 ((rd_T81 x23_2 x25_2).f0), .int .i64 ((rd_T81 x23_2 x25_2).f1), .int .i64 ((rd_T81 x23_2 x25_2).f2)] 81 (0, 0)) (r5_ BK160.out) hg (Kd.R_away HO_6.out (fun _ hk => hk.2))); have n2_ := Aside0.mk (hb); have n3_ := Aside0.mk (ho); clear HO_23; clear BK160; clear HB; clear HO_6; have HO_23 := n0_; have BK160 := n1_; have HB := n2_; have HO176 := n3_; clear n0_ n1_ n2_ n3_; clear ho hb hg hat))
        replace HO_23 := Aside0.mk (Kd.R_drew HO_23.out)
        replace HO176 := Aside0.mk (Kd.R_drew HO176.out)
        replace BK160 := Aside0.mk (blk_drew BK160.out)
        replace HB := Aside0.mk (below_drew1 HB.out)
        have p57 : 0 ≤ (x9_3 : Int) := od_
        have q57 : (x9_3 : Int) < ((y174.length : Int) : Int) := od_
        obtain ⟨go57, co57, eo57, gb57, gl57, cl57, HG57⟩ := Kd.R_form HO176.out (by omega)
        (first | cases eo57 | (injection eo57 with ea_ en_ ec_; (first | subst ea_ | (injection ea_ with ea_; subst ea_)); subst ec_; clear en_))
        have GB57 := Aside0.mk gb57
        have GG57 := Aside0.mk HG57
        clear gb57 gl57 HG57
        obtain ⟨i0_, hi0_, _, hsz_, _⟩ := info_parts info81
        have hyb_ := (Kd.R_reads' HO176.out).2.2.2.1
        have hwr_ : wrap64 (x9_3 + 1) = x9_3 + 1 := (by unfold wrap64; omega)
        have hcutP_ := cut_from (P := Try.prog) 29 81 .i64 Try.underlying29 hi0_ 3 hsz_ (some ⟨go57, 0, none⟩) y174.length co57 (wrap64 (x9_3 + 1)) (by rw [hwr_]; omega) (by rw [hwr_]; omega)
        obtain ⟨AP_, hAP_⟩ : ∃ A1, A1 = (if co57 = (wrap64 (x9_3 + 1)).toNat then (some ⟨go57, 0, none⟩ : Option Addr) else (some ⟨go57, 0, none⟩ : Option Addr).map (·.add ((wrap64 (x9_3 + 1)).toNat * 3))) := ⟨_, rfl⟩
        obtain ⟨nP_, hnP_⟩ : ∃ n1, n1 = y174.length - (wrap64 (x9_3 + 1)).toNat := ⟨_, rfl⟩
        obtain ⟨cP_, hcP_⟩ : ∃ c1, c1 = co57 - (wrap64 (x9_3 + 1)).toNat := ⟨_, rfl⟩
        rw [← hAP_, ← hnP_, ← hcP_] at hcutP_
        have hcutQ_ := cut_from (P := Try.prog) 29 81 .i64 Try.underlying29 hi0_ 3 hsz_ (some ⟨go57, 0, none⟩) y174.length co57 (x9_3) (by omega) (by omega)
        obtain ⟨AQ_, hAQ_⟩ : ∃ A1, A1 = (if co57 = (x9_3).toNat then (some ⟨go57, 0, none⟩ : Option Addr) else (some ⟨go57, 0, none⟩ : Option Addr).map (·.add ((x9_3).toNat * 3))) := ⟨_, rfl⟩
        obtain ⟨nQ_, hnQ_⟩ : ∃ n1, n1 = y174.length - (x9_3).toNat := ⟨_, rfl⟩
        obtain ⟨cQ_, hcQ_⟩ : ∃ c1, c1 = co57 - (x9_3).toNat := ⟨_, rfl⟩
        rw [← hAQ_, ← hnQ_, ← hcQ_] at hcutQ_
        rw [hwr_] at hAP_ hnP_
        clear hwr_ hyb_
        clear hcP_
        clear hcQ_
        have KP_ := Aside0.mk hAP_
        have KQ_ := Aside0.mk hAQ_
        have KN_ := Aside0.mk hnP_
        have KM_ := Aside0.mk hnQ_
        have KI_ := Aside0.mk (And.intro p57 q57)
        clear hAP_ hAQ_ hnP_ hnQ_ hi0_ hsz_
        replace p57 := eq_true p57
        replace q57 := eq_true q57
        refine start_ (n := 8) (S := fun w' => True) (ds := []) #[f_,f_,f_,f_,f_,f_,f_,f_] (by kernel_rfl) rfl rfl trivial (fun hHeld => ?_); refine with_tabW impl_MergeTables.tab13 impl_MergeTables.bits13 (fun HT_ HW_ => ?_)
        generalize w61.drew = w62 at HO_23 HO176 BK160 HB GG57 ⊢
        refine pv_ 0 110 HT_.out ?_
        refine pv_ 1 111 HT_.out ?_
        refine pv_ 2 112 HT_.out ?_
        refine pv_ 3 113 HT_.out ?_
        refine pv_ 4 114 HT_.out ?_
        refine pv_ 5 115 HT_.out ?_
        refine pu_ 6 116 #[t_,t_,t_,t_,t_,t_,t_,f_] HT_.out ?_
        refine one_ (i := 7) (N := some 117) #[t_,t_,t_,t_,t_,t_,t_,t_] rfl rfl (one_of HT_.out (by kernel_rfl)) (by decide) (fun K hK => ?_)
        obtain ⟨vc_, w64, hrun_, hp_, hg, hB_⟩ := copy_up_ HO176.out x9_3 KI_.out.1 KI_.out.2 AP_ KP_.out AQ_ KQ_.out nP_ nQ_ cP_ cQ_ KN_.out KM_.out 3
        refine event_step (by rfl) (v := vc_) (w1 := w64) ?hr_ ?_
        case hr_ => first | (go_simp; done) | (go_simp; rw [hrun_]; rfl)
        rw [← Ny177.out] at hp_
        replace HO_23 := Aside0.mk (Kd.R_mono (ok' := fun k_ => some k_ ≠ (.slice (some ⟨go57, 0, none⟩) y174.length co57 : Value).ownBlock ∧ k_ ≠ gb160) (Kd.R_after (v := (.slice (some ⟨go57, 0, none⟩) y174.length co57)) (v1 := (.slice (some ⟨go57, 0, none⟩) y174.length co57)) (ok := (fun k_ => k_ ≠ gb160)) (rk_ HO_23.out) hg (.inl rfl)) (fun _ hk => ⟨hk.2, hk.1⟩))
        replace BK160 := Aside0.mk (blk_grown (g := gb160) (o := .cells #[.int .i64 ((rd_T81 x23_2 x25_2).f0), .int .i64 ((rd_T81 x23_2 x25_2).f1), .int .i64 ((rd_T81 x23_2 x25_2).f2)] 81 (0, 0)) (r5_ BK160.out) hg (Kd.R_away HO176.out (fun _ hk => hk.2)))
        replace HO176 := Aside0.mk (hp_)
        replace HB := Aside0.mk (hB_ _ _ HB.out GB57.out)
        clear hg hp_ hB_ hrun_
        refine hK.out _ _ trivial (fun hHeld => ?_)
        clear hK K
        refine norm_ (a' := ?_) ?_ ?_
        rotate_left
        ·show Act.put _ (some 117) _ = _
         simp only [pz_]
         rfl
        refine done_ (done_of HT_.out (by kernel_rfl)) ?_
        obtain ⟨hcz65_0, hcz65_1, hcz65_2, hfz65_0, hfz65_1, hfz65_2⟩ := bk3_ BK160.out
        have p58 : 0 ≤ (x9_3 : Int) := od_
        have q58 : (x9_3 : Int) < ((y174.length : Int) : Int) := od_
        replace p58 := eq_true p58
        replace q58 := eq_true q58
        have HX66 := Aside0.mk (show Kd.R k81 81 w64 w.heap.size (fun k_ => some k_ ≠ (.slice (some ad159) x23_2.length co17 : Value).ownBlock ∧ k_ ≠ gb160) (.slice (some ⟨go57, 0, none⟩) y174.length co57) y177 from (rk_ HO176.out))
        obtain ⟨ce66, hcl66, hM66, hcc66, hfr66⟩ := Kd.R_elem HX66.out z81 (x9_3 : Int) od_ (by have h_ : (x9_3 : Int) < ((y174.length : Int) : Int) := od_; first | exact h_ | (have e_ := (Kd.R_reads' HO176.out).1; omega) | simpa using h_)
        obtain rfl := k81_openM hM66
        have HP66 := Kd.R_seg HX66.out (x9_3 : Int) od_ (by have h_ : (x9_3 : Int) < ((y174.length : Int) : Int) := od_; first | exact h_ | (have e_ := (Kd.R_reads' HO176.out).1; omega) | simpa using h_) (seg := [.int .i64 ((rd_T81 x23_2 x25_2).f0), .int .i64 ((rd_T81 x23_2 x25_2).f1), .int .i64 ((rd_T81 x23_2 x25_2).f2)]) (j := 0) hcl66 hcc66 (show 3 ≤ 3 from by decide) (x' := (⟨((rd_T81 x23_2 x25_2).f0), ((rd_T81 x23_2 x25_2).f1), ((rd_T81 x23_2 x25_2).f2)⟩ : S81)) (k81_mkM _ _ _ (⟨((rd_T81 x23_2 x25_2).f0), ((rd_T81 x23_2 x25_2).f1), ((rd_T81 x23_2 x25_2).f2)⟩ : S81) ) (fun _ hk => hk)
        have hx66_0 := hcc66 0 _ rfl
        (try simp only [show (k81).sz = 3 from rfl, Nat.mul_one, Nat.add_zero] at hx66_0)
        have hf66_0 := hfr66 0
        (try simp only [show (k81).sz = 3 from rfl, Nat.mul_one, Nat.add_zero] at hf66_0)
        have hx66_1 := hcc66 1 _ rfl
        (try simp only [show (k81).sz = 3 from rfl, Nat.mul_one, Nat.add_zero] at hx66_1)
        have hf66_1 := hfr66 1
        (try simp only [show (k81).sz = 3 from rfl, Nat.mul_one, Nat.add_zero] at hf66_1)
        have hx66_2 := hcc66 2 _ rfl
        (try simp only [show (k81).sz = 3 from rfl, Nat.mul_one, Nat.add_zero] at hx66_2)
        have hf66_2 := hfr66 2
        (try simp only [show (k81).sz = 3 from rfl, Nat.mul_one, Nat.add_zero] at hf66_2)
        clear hcl66 hcc66 hfr66 hM66
        try go_wp2_with (first | ((with_reducible refine gate_store (t := 81) (p := 121) rfl ?_); refine store_event (t := 81) (p := 121) (v := ?vo_w67) (w1 := (((w64.setCell ⟨go57, (x9_3 : Int).toNat * 3, none⟩ (.int .i64 ((rd_T81 x23_2 x25_2).f0))).setCell ⟨go57, (x9_3 : Int).toNat * 3 + 1, none⟩ (.int .i64 ((rd_T81 x23_2 x25_2).f1))).setCell ⟨go57, (x9_3 : Int).toNat * 3 + 2, none⟩ (.int .i64 ((rd_T81 x23_2 x25_2).f2)))) ?hg ?ho ?hn ?hr ?_; (case ho => rfl); (case hg => rfl); (case hn => rfl); (case hr => first | (go_simp; done) | (go_simp; rfl)); intro w67 hw; have hg : w64.grownBy w67 (some go57) := (by rw [hw]; exact HP66.2); have hp_ : Kd.R k81 81 w67 w.heap.size (fun k_ => some k_ ≠ (.slice (some ad159) x23_2.length co17 : Value).ownBlock ∧ k_ ≠ gb160) (.slice (some ⟨go57, 0, none⟩) y174.length co57) y178 := (by rw [hw, Ny178.out]; exact HP66.1); clear HP66; replace HO_23 := Aside0.mk (Kd.R_after (v := (.slice (some ⟨go57, 0, none⟩) y174.length co57)) (v1 := (.slice (some ⟨go57, 0, none⟩) y174.length co57)) (ok := (fun k_ => k_ ≠ gb160)) (rk_ (Kd.R_mono HO_23.out (fun _ hk => ⟨hk.2, hk.1⟩))) hg (.inl rfl)); replace BK160 := Aside0.mk (blk_grown (g := gb160) (o := .cells #[.int .i64 ((rd_T81 x23_2 x25_2).f0), .int .i64 ((rd_T81 x23_2 x25_2).f1), .int .i64 ((rd_T81 x23_2 x25_2).f2)] 81 (0, 0)) (r5_ BK160.out) hg (Kd.R_away HO176.out (fun _ hk => hk.2))); replace HO176 := Aside0.mk (hp_); replace HB := Aside0.mk ((by rw [hw]; exact below_set (below_set (below_set (HB.out) GB57.out) GB57.out) GB57.out : Below w.heap.size w w67)); clear hg hw hp_))
        (try simp only [← hl23_2])
        go_roundg k3
        case measure => have := HJ2.out; have := HK2.out; have := HK3.out; omega
        case rel => exact ⟨(y178), (x23_2), (wrap64 (x25_2 + 1)), rs_, H', ⟨by have := HJ2.out; have := HK2.out; have := HK3.out; omega⟩, ⟨by (try simp only [hl23_2]); (with_reducible repeat (first | apply Kd.R_alloc | apply Kd.R_drewN | apply Kd.R_drew)); exact Kd.R_mono HO176.out (fun _ hk => hk.1)⟩, ⟨by (try simp only [hl23_2]); (with_reducible repeat (first | apply Kd.R_alloc | apply Kd.R_drewN | apply Kd.R_drew)); exact Kd.R_mono HO_23.out (fun _ hk => hk.2)⟩, ⟨r3_ HB.out GE160.out⟩⟩
       rw [if_pos c30] at H
       have c30b0 := beq_iff_eq.mpr c30
       have c30b1 := bne_eq_false_iff_eq.mpr c30
       clear c30
       by_cases c31 : ((rd_T81 x6_2 (ji25)).f1) > ((rd_T81 x23_2 x25_2).f1)
       case pos =>
        rw [if_pos c31] at H
        have c31b0 : decide (((rd_T81 x23_2 x25_2).f1) < ((rd_T81 x6_2 (ji25)).f1)) = true := decide_eq_true c31
        clear c31
        have H' := Aside0.mk H
        clear H
        try go_wp2
        replace HO_6 := Aside0.mk (Kd.R_drew HO_6.out)
        replace HO_23 := Aside0.mk (Kd.R_drew HO_23.out)
        replace BK160 := Aside0.mk (blk_drew BK160.out)
        replace HB := Aside0.mk (below_drew1 HB.out)
        have p161 : 0 ≤ ((ji25) : Int) := od_
        have q161 : (ji25) < (x6_2.length : Int) := od_
        obtain ⟨ad161, e161, hx161_0, hx161_1, hx161_2⟩ := at_T81 (Kd.R_reads' HO_6.out).2.2 (ji25) p161 q161
        cases e161
        replace p161 := eq_true p161
        replace q161 := eq_true q161
        have p162 : 0 ≤ ((ji25) : Int) := od_
        have q162 : (ji25) < (x6_2.length : Int) := od_
        obtain ⟨ad162, e162, hx162_0, hx162_1, hx162_2⟩ := at_T81 (Kd.R_reads' HO_6.out).2.2 (ji25) p162 q162
        obtain rfl : ad161 = ad162 := (by injection e162)
        replace p162 := eq_true p162
        replace q162 := eq_true q162
        have p163 : 0 ≤ ((ji25) : Int) := od_
        have q163 : (ji25) < (x6_2.length : Int) := od_
        obtain ⟨ad163, e163, hx163_0, hx163_1, hx163_2⟩ := at_T81 (Kd.R_reads' HO_6.out).2.2 (ji25) p163 q163
        obtain rfl : ad161 = ad163 := (by injection e163)
        replace p163 := eq_true p163
        replace q163 := eq_true q163
        refine start_ (n := 35) (S := fun w' => w'.cell? ⟨gb160, 0, none⟩ = some (.int .i64 ((rd_T81 x23_2 x25_2).f0)) ∧ w'.cell? ⟨gb160, 1, none⟩ = some (.int .i64 ((rd_T81 x23_2 x25_2).f1)) ∧ w'.cell? ⟨gb160, 2, none⟩ = some (.int .i64 ((rd_T81 x23_2 x25_2).f2)) ∧ w'.cell? (ad161.add (((ji25)).toNat * 3)) = some (.int .i64 ((rd_T81 x6_2 (ji25)).f0)) ∧ w'.cell? ⟨(ad161.add (((ji25)).toNat * 3)).block, (ad161.add (((ji25)).toNat * 3)).off + 1, none⟩ = some (.int .i64 ((rd_T81 x6_2 (ji25)).f1)) ∧ w'.cell? ⟨(ad161.add (((ji25)).toNat * 3)).block, (ad161.add (((ji25)).toNat * 3)).off + 2, none⟩ = some (.int .i64 ((rd_T81 x6_2 (ji25)).f2)) ∧ w'.cell? (ad161.add (((ji25)).toNat * 3)) = some (.int .i64 ((rd_T81 x6_2 (ji25)).f0)) ∧ w'.cell? ⟨(ad161.add (((ji25)).toNat * 3)).block, (ad161.add (((ji25)).toNat * 3)).off + 1, none⟩ = some (.int .i64 ((rd_T81 x6_2 (ji25)).f1)) ∧ w'.cell? ⟨(ad161.add (((ji25)).toNat * 3)).block, (ad161.add (((ji25)).toNat * 3)).off + 2, none⟩ = some (.int .i64 ((rd_T81 x6_2 (ji25)).f2)) ∧ w'.cell? (ad161.add (((ji25)).toNat * 3)) = some (.int .i64 ((rd_T81 x6_2 (ji25)).f0)) ∧ w'.cell? ⟨(ad161.add (((ji25)).toNat * 3)).block, (ad161.add (((ji25)).toNat * 3)).off + 1, none⟩ = some (.int .i64 ((rd_T81 x6_2 (ji25)).f1)) ∧ w'.cell? ⟨(ad161.add (((ji25)).toNat * 3)).block, (ad161.add (((ji25)).toNat * 3)).off + 2, none⟩ = some (.int .i64 ((rd_T81 x6_2 (ji25)).f2))) (ds := []) #[f_,f_,f_,f_,f_,f_,f_,f_,f_,f_,f_,f_,f_,f_,f_,f_,f_,f_,f_,f_,f_,f_,f_,f_,f_,f_,f_,f_,f_,f_,f_,f_,f_,f_,f_] (by kernel_rfl) rfl rfl ⟨(blk_cell BK160.out 0).trans rfl, (blk_cell BK160.out 1).trans rfl, (blk_cell BK160.out 2).trans rfl, hx161_0, hx161_1, hx161_2, hx162_0, hx162_1, hx162_2, hx163_0, hx163_1, hx163_2⟩ (fun hHeld => ?_); refine with_tabW impl_MergeTables.tab8 impl_MergeTables.bits8 (fun HT_ HW_ => ?_)
        generalize wr.drew = w32 at HO_6 HO_23 BK160 HB hx161_0 hx161_1 hx161_2 hx162_0 hx162_1 hx162_2 hx163_0 hx163_1 hx163_2 hHeld ⊢
        refine pv_ 0 31 HT_.out ?_
        refine pv_ 1 32 HT_.out ?_
        refine pv_ 2 33 HT_.out ?_
        refine pv_ 3 34 HT_.out ?_
        refine pv_ 4 35 HT_.out ?_
        refine pv_ 5 36 HT_.out ?_
        refine pv_ 6 37 HT_.out ?_
        refine pv_ 7 38 HT_.out ?_
        refine pv_ 9 40 HT_.out ?_
        refine tv12_ 8 39 HT_.out HW_.out hHeld ?_
        refine tv12_ 10 41 HT_.out HW_.out hHeld ?_
        refine pv_ 11 42 HT_.out ?_
        refine pv_ 12 43 HT_.out ?_
        refine pv_ 13 44 HT_.out ?_
        refine pv_ 14 45 HT_.out ?_
        refine pv_ 15 46 HT_.out ?_
        refine pv_ 16 47 HT_.out ?_
        refine pv_ 17 48 HT_.out ?_
        refine pv_ 19 50 HT_.out ?_
        refine tv12_ 18 49 HT_.out HW_.out hHeld ?_
        refine tv12_ 20 51 HT_.out HW_.out hHeld ?_
        refine pv_ 21 52 HT_.out ?_
        refine pv_ 22 53 HT_.out ?_
        refine pv_ 23 54 HT_.out ?_
        refine pv_ 24 55 HT_.out ?_
        refine pv_ 25 56 HT_.out ?_
        refine pv_ 26 57 HT_.out ?_
        refine pv_ 27 58 HT_.out ?_
        refine pv_ 29 60 HT_.out ?_
        refine tv12_ 28 59 HT_.out HW_.out hHeld ?_
        refine tv12_ 30 61 HT_.out HW_.out hHeld ?_
        refine pv_ 31 62 HT_.out ?_
        refine pv_ 32 63 HT_.out ?_
        refine pv_ 33 64 HT_.out ?_
        refine pu_ 34 65 #[t_,t_,t_,t_,t_,t_,t_,t_,t_,t_,t_,t_,t_,t_,t_,t_,t_,t_,t_,t_,t_,t_,t_,t_,t_,t_,t_,t_,t_,t_,t_,t_,t_,t_,t_] HT_.out ?_
        refine done_ (done_of HT_.out (by kernel_rfl)) ?_
        try go_wp2
        go_roundg k3
        case measure => have := HJ2.out; have := HK2.out; have := HK3.out; omega
        case rel => exact ⟨(ji25), (by first | rfl | (simp; done) | (simp only [← hji25] <;> (first | rfl | simp)) | (simp [*]; done)), H', ⟨by have := HJ2.out; have := HK2.out; have := HK3.out; omega⟩, ⟨by (try simp only [hl23_2]); (with_reducible repeat (first | apply Kd.R_alloc | apply Kd.R_drewN | apply Kd.R_drew)); exact HO_6.out⟩, ⟨by (try simp only [hl23_2]); (with_reducible repeat (first | apply Kd.R_alloc | apply Kd.R_drewN | apply Kd.R_drew)); exact HO_23.out⟩, ⟨by (try simp only [hl23_2]); (with_reducible repeat (first | refine blk_drewN ?_ _ | refine blk_drew ?_ | refine blk_alloc ?_ _)); exact BK160.out⟩, ⟨r3_ HB.out GE160.out⟩⟩
       rw [if_neg c31] at H
       have c31b0 : decide (((rd_T81 x23_2 x25_2).f1) < ((rd_T81 x6_2 (ji25)).f1)) = false := decide_eq_false c31
       clear c31
       by_cases c33 : ((rd_T81 x6_2 (ji25)).f1) = ((rd_T81 x23_2 x25_2).f1)
       case neg =>
        rw [if_neg c33] at H
        have c33b0 := beq_eq_false_iff_ne.mpr c33
        have c33b1 := bne_iff_ne.mpr c33
        by_cases c40 : x6_2.length < 5864062014805
        case neg =>
         rw [if_neg c40] at H
         exact absurd H (by simp)
        rw [if_pos c40] at H
        have LMc40 := Aside0.mk c40
        clear c40
        obtain ⟨y168, hy168⟩ : ∃ y_ : List (S81), y_ = (x6_2 ++ [(⟨0, 0, 0⟩ : S81)]) := ⟨_, rfl⟩
        replace H : (if 0 ≤ x9_3 then (if x9_3 < (y168.length : Int) then (impl_MergeTables.l0 k3 ((shiftM_ y168 x9_3).set (x9_3 : Int).toNat (⟨((rd_T81 x23_2 x25_2).f0), ((rd_T81 x23_2 x25_2).f1), ((rd_T81 x23_2 x25_2).f2)⟩ : S81)) x23_2 (y156.length : Int) (wrap64 (x25_2 + 1))) else (none)) else (none)) = some (r1, r2) := by first | (rw [hy168]; with_reducible exact H) | (have H2_ := (Option.bind_some _ _).symm.trans H; rw [hy168]; with_reducible exact H2_) | (have H2_ := (Option.bind_some _ _).symm.trans H; with_reducible exact H2_) | with_reducible exact H | (rw [hy168]; exact H) | exact H
        have Ny168 := Aside0.mk hy168
        clear hy168
        by_cases c41 : 0 ≤ x9_3
        case neg =>
         rw [if_neg c41] at H
         exact absurd H (by simp)
        rw [if_pos c41] at H
        have c41b0 := decide_eq_true c41
        clear c41
        by_cases c42 : x9_3 < (y168.length : Int)
        case neg =>
         rw [if_neg c42] at H
         exact absurd H (by simp)
        rw [if_pos c42] at H
        have c42b0 := decide_eq_true c42
        clear c42
        obtain ⟨y171, hy171⟩ : ∃ y_ : List (S81), y_ = (shiftM_ y168 x9_3) := ⟨_, rfl⟩
        replace H : (impl_MergeTables.l0 k3 (y171.set (x9_3 : Int).toNat (⟨((rd_T81 x23_2 x25_2).f0), ((rd_T81 x23_2 x25_2).f1), ((rd_T81 x23_2 x25_2).f2)⟩ : S81)) x23_2 (y156.length : Int) (wrap64 (x25_2 + 1))) = some (r1, r2) := by first | (rw [hy171]; with_reducible exact H) | (have H2_ := (Option.bind_some _ _).symm.trans H; rw [hy171]; with_reducible exact H2_) | (have H2_ := (Option.bind_some _ _).symm.trans H; with_reducible exact H2_) | with_reducible exact H | (rw [hy171]; exact H) | exact H
        have Ny171 := Aside0.mk hy171
        clear hy171
        obtain ⟨y172, hy172⟩ : ∃ y_ : List (S81), y_ = (y171.set (x9_3 : Int).toNat (⟨((rd_T81 x23_2 x25_2).f0), ((rd_T81 x23_2 x25_2).f1), ((rd_T81 x23_2 x25_2).f2)⟩ : S81)) := ⟨_, rfl⟩
        replace H : (impl_MergeTables.l0 k3 y172 x23_2 (y156.length : Int) (wrap64 (x25_2 + 1))) = some (r1, r2) := by first | (rw [hy172]; with_reducible exact H) | (have H2_ := (Option.bind_some _ _).symm.trans H; rw [hy172]; with_reducible exact H2_) | (have H2_ := (Option.bind_some _ _).symm.trans H; with_reducible exact H2_) | with_reducible exact H | (rw [hy172]; exact H) | exact H
        have Ny172 := Aside0.mk hy172
        clear hy172
        have H' := Aside0.mk H
        clear H
        try go_wp2
        replace HO_6 := Aside0.mk (Kd.R_drew HO_6.out)
        replace HO_23 := Aside0.mk (Kd.R_drew HO_23.out)
        replace BK160 := Aside0.mk (blk_drew BK160.out)
        replace HB := Aside0.mk (below_drew1 HB.out)
        have p161 : 0 ≤ ((ji25) : Int) := od_
        have q161 : (ji25) < (x6_2.length : Int) := od_
        obtain ⟨ad161, e161, hx161_0, hx161_1, hx161_2⟩ := at_T81 (Kd.R_reads' HO_6.out).2.2 (ji25) p161 q161
        cases e161
        replace p161 := eq_true p161
        replace q161 := eq_true q161
        have p162 : 0 ≤ ((ji25) : Int) := od_
        have q162 : (ji25) < (x6_2.length : Int) := od_
        obtain ⟨ad162, e162, hx162_0, hx162_1, hx162_2⟩ := at_T81 (Kd.R_reads' HO_6.out).2.2 (ji25) p162 q162
        obtain rfl : ad161 = ad162 := (by injection e162)
        replace p162 := eq_true p162
        replace q162 := eq_true q162
        have p163 : 0 ≤ ((ji25) : Int) := od_
        have q163 : (ji25) < (x6_2.length : Int) := od_
        obtain ⟨ad163, e163, hx163_0, hx163_1, hx163_2⟩ := at_T81 (Kd.R_reads' HO_6.out).2.2 (ji25) p163 q163
        obtain rfl : ad161 = ad163 := (by injection e163)
        replace p163 := eq_true p163
        replace q163 := eq_true q163
        refine start_ (n := 35) (S := fun w' => w'.cell? ⟨gb160, 0, none⟩ = some (.int .i64 ((rd_T81 x23_2 x25_2).f0)) ∧ w'.cell? ⟨gb160, 1, none⟩ = some (.int .i64 ((rd_T81 x23_2 x25_2).f1)) ∧ w'.cell? ⟨gb160, 2, none⟩ = some (.int .i64 ((rd_T81 x23_2 x25_2).f2)) ∧ w'.cell? (ad161.add (((ji25)).toNat * 3)) = some (.int .i64 ((rd_T81 x6_2 (ji25)).f0)) ∧ w'.cell? ⟨(ad161.add (((ji25)).toNat * 3)).block, (ad161.add (((ji25)).toNat * 3)).off + 1, none⟩ = some (.int .i64 ((rd_T81 x6_2 (ji25)).f1)) ∧ w'.cell? ⟨(ad161.add (((ji25)).toNat * 3)).block, (ad161.add (((ji25)).toNat * 3)).off + 2, none⟩ = some (.int .i64 ((rd_T81 x6_2 (ji25)).f2)) ∧ w'.cell? (ad161.add (((ji25)).toNat * 3)) = some (.int .i64 ((rd_T81 x6_2 (ji25)).f0)) ∧ w'.cell? ⟨(ad161.add (((ji25)).toNat * 3)).block, (ad161.add (((ji25)).toNat * 3)).off + 1, none⟩ = some (.int .i64 ((rd_T81 x6_2 (ji25)).f1)) ∧ w'.cell? ⟨(ad161.add (((ji25)).toNat * 3)).block, (ad161.add (((ji25)).toNat * 3)).off + 2, none⟩ = some (.int .i64 ((rd_T81 x6_2 (ji25)).f2)) ∧ w'.cell? (ad161.add (((ji25)).toNat * 3)) = some (.int .i64 ((rd_T81 x6_2 (ji25)).f0)) ∧ w'.cell? ⟨(ad161.add (((ji25)).toNat * 3)).block, (ad161.add (((ji25)).toNat * 3)).off + 1, none⟩ = some (.int .i64 ((rd_T81 x6_2 (ji25)).f1)) ∧ w'.cell? ⟨(ad161.add (((ji25)).toNat * 3)).block, (ad161.add (((ji25)).toNat * 3)).off + 2, none⟩ = some (.int .i64 ((rd_T81 x6_2 (ji25)).f2))) (ds := []) #[f_,f_,f_,f_,f_,f_,f_,f_,f_,f_,f_,f_,f_,f_,f_,f_,f_,f_,f_,f_,f_,f_,f_,f_,f_,f_,f_,f_,f_,f_,f_,f_,f_,f_,f_] (by kernel_rfl) rfl rfl ⟨(blk_cell BK160.out 0).trans rfl, (blk_cell BK160.out 1).trans rfl, (blk_cell BK160.out 2).trans rfl, hx161_0, hx161_1, hx161_2, hx162_0, hx162_1, hx162_2, hx163_0, hx163_1, hx163_2⟩ (fun hHeld => ?_); refine with_tabW impl_MergeTables.tab8 impl_MergeTables.bits8 (fun HT_ HW_ => ?_)
        generalize wr.drew = w45 at HO_6 HO_23 BK160 HB hx161_0 hx161_1 hx161_2 hx162_0 hx162_1 hx162_2 hx163_0 hx163_1 hx163_2 hHeld ⊢
        refine pv_ 0 31 HT_.out ?_
        refine pv_ 1 32 HT_.out ?_
        refine pv_ 2 33 HT_.out ?_
        refine pv_ 3 34 HT_.out ?_
        refine pv_ 4 35 HT_.out ?_
        refine pv_ 5 36 HT_.out ?_
        refine pv_ 6 37 HT_.out ?_
        refine pv_ 7 38 HT_.out ?_
        refine pv_ 9 40 HT_.out ?_
        refine tv12_ 8 39 HT_.out HW_.out hHeld ?_
        refine tv12_ 10 41 HT_.out HW_.out hHeld ?_
        refine pv_ 11 42 HT_.out ?_
        refine pv_ 12 43 HT_.out ?_
        refine pv_ 13 44 HT_.out ?_
        refine pv_ 14 45 HT_.out ?_
        refine pv_ 15 46 HT_.out ?_
        refine pv_ 16 47 HT_.out ?_
        refine pv_ 17 48 HT_.out ?_
        refine pv_ 19 50 HT_.out ?_
        refine tv12_ 18 49 HT_.out HW_.out hHeld ?_
        refine tv12_ 20 51 HT_.out HW_.out hHeld ?_
        refine pv_ 21 52 HT_.out ?_
        refine pv_ 22 53 HT_.out ?_
        refine pv_ 23 54 HT_.out ?_
        refine pv_ 24 55 HT_.out ?_
        refine pv_ 25 56 HT_.out ?_
        refine pv_ 26 57 HT_.out ?_
        refine pv_ 27 58 HT_.out ?_
        refine pv_ 29 60 HT_.out ?_
        refine tv12_ 28 59 HT_.out HW_.out hHeld ?_
        refine tv12_ 30 61 HT_.out HW_.out hHeld ?_
        refine pv_ 31 62 HT_.out ?_
        refine pv_ 32 63 HT_.out ?_
        refine pv_ 33 64 HT_.out ?_
        refine pu_ 34 65 #[t_,t_,t_,t_,t_,t_,t_,t_,t_,t_,t_,t_,t_,t_,t_,t_,t_,t_,t_,t_,t_,t_,t_,t_,t_,t_,t_,t_,t_,t_,t_,t_,t_,t_,t_] HT_.out ?_
        refine done_ (done_of HT_.out (by kernel_rfl)) ?_
        try go_wp2
        replace HO_6 := Aside0.mk (Kd.R_drew HO_6.out)
        replace HO_23 := Aside0.mk (Kd.R_drew HO_23.out)
        replace BK160 := Aside0.mk (blk_drew BK160.out)
        replace HB := Aside0.mk (below_drew1 HB.out)
        have p164 : 0 ≤ ((ji25) : Int) := od_
        have q164 : (ji25) < (x6_2.length : Int) := od_
        obtain ⟨ad164, e164, hx164_0, hx164_1, hx164_2⟩ := at_T81 (Kd.R_reads' HO_6.out).2.2 (ji25) p164 q164
        obtain rfl : ad161 = ad164 := (by injection e164)
        replace p164 := eq_true p164
        replace q164 := eq_true q164
        have p165 : 0 ≤ ((ji25) : Int) := od_
        have q165 : (ji25) < (x6_2.length : Int) := od_
        obtain ⟨ad165, e165, hx165_0, hx165_1, hx165_2⟩ := at_T81 (Kd.R_reads' HO_6.out).2.2 (ji25) p165 q165
        obtain rfl : ad161 = ad165 := (by injection e165)
        replace p165 := eq_true p165
        replace q165 := eq_true q165
        refine start_ (n := 24) (S := fun w' => w'.cell? ⟨gb160, 0, none⟩ = some (.int .i64 ((rd_T81 x23_2 x25_2).f0)) ∧ w'.cell? ⟨gb160, 1, none⟩ = some (.int .i64 ((rd_T81 x23_2 x25_2).f1)) ∧ w'.cell? ⟨gb160, 2, none⟩ = some (.int .i64 ((rd_T81 x23_2 x25_2).f2)) ∧ w'.cell? (ad161.add (((ji25)).toNat * 3)) = some (.int .i64 ((rd_T81 x6_2 (ji25)).f0)) ∧ w'.cell? ⟨(ad161.add (((ji25)).toNat * 3)).block, (ad161.add (((ji25)).toNat * 3)).off + 1, none⟩ = some (.int .i64 ((rd_T81 x6_2 (ji25)).f1)) ∧ w'.cell? ⟨(ad161.add (((ji25)).toNat * 3)).block, (ad161.add (((ji25)).toNat * 3)).off + 2, none⟩ = some (.int .i64 ((rd_T81 x6_2 (ji25)).f2)) ∧ w'.cell? (ad161.add (((ji25)).toNat * 3)) = some (.int .i64 ((rd_T81 x6_2 (ji25)).f0)) ∧ w'.cell? ⟨(ad161.add (((ji25)).toNat * 3)).block, (ad161.add (((ji25)).toNat * 3)).off + 1, none⟩ = some (.int .i64 ((rd_T81 x6_2 (ji25)).f1)) ∧ w'.cell? ⟨(ad161.add (((ji25)).toNat * 3)).block, (ad161.add (((ji25)).toNat * 3)).off + 2, none⟩ = some (.int .i64 ((rd_T81 x6_2 (ji25)).f2))) (ds := []) #[f_,f_,f_,f_,f_,f_,f_,f_,f_,f_,f_,f_,f_,f_,f_,f_,f_,f_,f_,f_,f_,f_,f_,f_] (by kernel_rfl) rfl rfl ⟨(blk_cell BK160.out 0).trans rfl, (blk_cell BK160.out 1).trans rfl, (blk_cell BK160.out 2).trans rfl, hx164_0, hx164_1, hx164_2, hx165_0, hx165_1, hx165_2⟩ (fun hHeld => ?_); refine with_tabW impl_MergeTables.tab10 impl_MergeTables.bits10 (fun HT_ HW_ => ?_)
        generalize w45.drew = w46 at HO_6 HO_23 BK160 HB hx164_0 hx164_1 hx164_2 hx165_0 hx165_1 hx165_2 hHeld ⊢
        refine pv_ 0 68 HT_.out ?_
        refine pv_ 1 69 HT_.out ?_
        refine pv_ 2 70 HT_.out ?_
        refine pv_ 3 71 HT_.out ?_
        refine pv_ 4 72 HT_.out ?_
        refine pv_ 5 73 HT_.out ?_
        refine pv_ 6 74 HT_.out ?_
        refine pv_ 7 75 HT_.out ?_
        refine pv_ 9 77 HT_.out ?_
        refine tv9_ 8 76 HT_.out HW_.out hHeld ?_
        refine tv9_ 10 78 HT_.out HW_.out hHeld ?_
        refine pv_ 11 79 HT_.out ?_
        refine pv_ 12 80 HT_.out ?_
        refine pv_ 13 81 HT_.out ?_
        refine pv_ 14 82 HT_.out ?_
        refine pv_ 15 83 HT_.out ?_
        refine pv_ 16 84 HT_.out ?_
        refine pv_ 17 85 HT_.out ?_
        refine pv_ 18 86 HT_.out ?_
        refine pv_ 20 88 HT_.out ?_
        refine tv9_ 19 87 HT_.out HW_.out hHeld ?_
        refine tv9_ 21 89 HT_.out HW_.out hHeld ?_
        refine pv_ 22 90 HT_.out ?_
        refine pu_ 23 91 #[t_,t_,t_,t_,t_,t_,t_,t_,t_,t_,t_,t_,t_,t_,t_,t_,t_,t_,t_,t_,t_,t_,t_,t_] HT_.out ?_
        refine done_ (done_of HT_.out (by kernel_rfl)) ?_
        try go_wp2_with (first | ((with_reducible refine gate_builtin (b := .append) (xs := #[.tmp 106, .tmp 108]) rfl ?_); at_builtin; refine Kd.R_append k81 (w0 := w) w.heap.size rfl (.tmp 106) (.tmp 108) 29 81 (.agg #[(.int .i64 0), (.int .i64 0), (.int .i64 0)]) 24 rfl Try.underlying29 info81 rfl (by decide) (by omega) (.slice (some ad161) x6_2.length co23) x6_2 (⟨0, 0, 0⟩ : S81) [.int .i64 0, .int .i64 0, .int .i64 0] (fun k_ => some k_ ≠ (.slice (some ad159) x23_2.length co17 : Value).ownBlock ∧ k_ ≠ gb160) (fun _ => False) rfl rfl ?aP (fun _ hk => hk.elim) ?aF ?aO ?aB ?aS ?aL ?_; (case aP => exact k81_mkM _ _ _ (⟨0, 0, 0⟩ : S81)); (case aB => exact (r3_ HB.out GE160.out)); (case aF => exact (fun k_ hk => ⟨Kd.fresh' (Kd.R_lt (rk_ HO_23.out)) k_ hk, Kd.freshB (g := gb160) (o := .cells #[.int .i64 ((rd_T81 x23_2 x25_2).f0), .int .i64 ((rd_T81 x23_2 x25_2).f1), .int .i64 ((rd_T81 x23_2 x25_2).f2)] 81 (0, 0)) (r5_ BK160.out) k_ hk⟩)); (case aO => exact (rk_ HO_6.out)); (case aS => exact (below_size (r3_ HB.out GE160.out))); (case aL => have := LMc40.out; omega); intro v169 w47 ho hb hg hat; rw [← Ny168.out] at ho; have n0_ := Aside0.mk (Kd.R_after (ok := (fun k_ => k_ ≠ gb160)) (rk_ (Kd.R_mono HO_23.out (fun _ hk => ⟨hk.2, hk.1⟩))) hg hat); have n1_ := Aside0.mk (blk_grown (g := gb160) (o := .cells #[.int .i64 ((rd_T81 x23_2 x25_2).f0), .int .i64 ((rd_T81 x23_2 x25_2).f1), .int .i64 ((rd_T81 x23_2 x25_2).f2)] 81 (0, 0)) (r5_ BK160.out) hg (Kd.R_away HO_6.out (fun _ hk => hk.2))); have n2_ := Aside0.mk (hb); have n3_ := Aside0.mk (ho); clear HO_23; clear BK160; clear HB; clear HO_6; have HO_23 := n0_; have BK160 := n1_; have HB := n2_; have HO170 := n3_; clear n0_ n1_ n2_ n3_; clear ho hb hg hat))
        replace HO_23 := Aside0.mk (Kd.R_drew HO_23.out)
        replace HO170 := Aside0.mk (Kd.R_drew HO170.out)
        replace BK160 := Aside0.mk (blk_drew BK160.out)
        replace HB := Aside0.mk (below_drew1 HB.out)
        have p43 : 0 ≤ (x9_3 : Int) := od_
        have q43 : (x9_3 : Int) < ((y168.length : Int) : Int) := od_
        obtain ⟨go43, co43, eo43, gb43, gl43, cl43, HG43⟩ := Kd.R_form HO170.out (by omega)
        (first | cases eo43 | (injection eo43 with ea_ en_ ec_; (first | subst ea_ | (injection ea_ with ea_; subst ea_)); subst ec_; clear en_))
        have GB43 := Aside0.mk gb43
        have GG43 := Aside0.mk HG43
        clear gb43 gl43 HG43
        obtain ⟨i0_, hi0_, _, hsz_, _⟩ := info_parts info81
        have hyb_ := (Kd.R_reads' HO170.out).2.2.2.1
        have hwr_ : wrap64 (x9_3 + 1) = x9_3 + 1 := (by unfold wrap64; omega)
        have hcutP_ := cut_from (P := Try.prog) 29 81 .i64 Try.underlying29 hi0_ 3 hsz_ (some ⟨go43, 0, none⟩) y168.length co43 (wrap64 (x9_3 + 1)) (by rw [hwr_]; omega) (by rw [hwr_]; omega)
        obtain ⟨AP_, hAP_⟩ : ∃ A1, A1 = (if co43 = (wrap64 (x9_3 + 1)).toNat then (some ⟨go43, 0, none⟩ : Option Addr) else (some ⟨go43, 0, none⟩ : Option Addr).map (·.add ((wrap64 (x9_3 + 1)).toNat * 3))) := ⟨_, rfl⟩
        obtain ⟨nP_, hnP_⟩ : ∃ n1, n1 = y168.length - (wrap64 (x9_3 + 1)).toNat := ⟨_, rfl⟩
        obtain ⟨cP_, hcP_⟩ : ∃ c1, c1 = co43 - (wrap64 (x9_3 + 1)).toNat := ⟨_, rfl⟩
        rw [← hAP_, ← hnP_, ← hcP_] at hcutP_
        have hcutQ_ := cut_from (P := Try.prog) 29 81 .i64 Try.underlying29 hi0_ 3 hsz_ (some ⟨go43, 0, none⟩) y168.length co43 (x9_3) (by omega) (by omega)
        obtain ⟨AQ_, hAQ_⟩ : ∃ A1, A1 = (if co43 = (x9_3).toNat then (some ⟨go43, 0, none⟩ : Option Addr) else (some ⟨go43, 0, none⟩ : Option Addr).map (·.add ((x9_3).toNat * 3))) := ⟨_, rfl⟩
        obtain ⟨nQ_, hnQ_⟩ : ∃ n1, n1 = y168.length - (x9_3).toNat := ⟨_, rfl⟩
        obtain ⟨cQ_, hcQ_⟩ : ∃ c1, c1 = co43 - (x9_3).toNat := ⟨_, rfl⟩
        rw [← hAQ_, ← hnQ_, ← hcQ_] at hcutQ_
        rw [hwr_] at hAP_ hnP_
        clear hwr_ hyb_
        clear hcP_
        clear hcQ_
        have KP_ := Aside0.mk hAP_
        have KQ_ := Aside0.mk hAQ_
        have KN_ := Aside0.mk hnP_
        have KM_ := Aside0.mk hnQ_
        have KI_ := Aside0.mk (And.intro p43 q43)
        clear hAP_ hAQ_ hnP_ hnQ_ hi0_ hsz_
        replace p43 := eq_true p43
        replace q43 := eq_true q43
        refine start_ (n := 8) (S := fun w' => True) (ds := []) #[f_,f_,f_,f_,f_,f_,f_,f_] (by kernel_rfl) rfl rfl trivial (fun hHeld => ?_); refine with_tabW impl_MergeTables.tab13 impl_MergeTables.bits13 (fun HT_ HW_ => ?_)
        generalize w47.drew = w48 at HO_23 HO170 BK160 HB GG43 ⊢
        refine pv_ 0 110 HT_.out ?_
        refine pv_ 1 111 HT_.out ?_
        refine pv_ 2 112 HT_.out ?_
        refine pv_ 3 113 HT_.out ?_
        refine pv_ 4 114 HT_.out ?_
        refine pv_ 5 115 HT_.out ?_
        refine pu_ 6 116 #[t_,t_,t_,t_,t_,t_,t_,f_] HT_.out ?_
        refine one_ (i := 7) (N := some 117) #[t_,t_,t_,t_,t_,t_,t_,t_] rfl rfl (one_of HT_.out (by kernel_rfl)) (by decide) (fun K hK => ?_)
        obtain ⟨vc_, w50, hrun_, hp_, hg, hB_⟩ := copy_up_ HO170.out x9_3 KI_.out.1 KI_.out.2 AP_ KP_.out AQ_ KQ_.out nP_ nQ_ cP_ cQ_ KN_.out KM_.out 3
        refine event_step (by rfl) (v := vc_) (w1 := w50) ?hr_ ?_
        case hr_ => first | (go_simp; done) | (go_simp; rw [hrun_]; rfl)
        rw [← Ny171.out] at hp_
        replace HO_23 := Aside0.mk (Kd.R_mono (ok' := fun k_ => some k_ ≠ (.slice (some ⟨go43, 0, none⟩) y168.length co43 : Value).ownBlock ∧ k_ ≠ gb160) (Kd.R_after (v := (.slice (some ⟨go43, 0, none⟩) y168.length co43)) (v1 := (.slice (some ⟨go43, 0, none⟩) y168.length co43)) (ok := (fun k_ => k_ ≠ gb160)) (rk_ HO_23.out) hg (.inl rfl)) (fun _ hk => ⟨hk.2, hk.1⟩))
        replace BK160 := Aside0.mk (blk_grown (g := gb160) (o := .cells #[.int .i64 ((rd_T81 x23_2 x25_2).f0), .int .i64 ((rd_T81 x23_2 x25_2).f1), .int .i64 ((rd_T81 x23_2 x25_2).f2)] 81 (0, 0)) (r5_ BK160.out) hg (Kd.R_away HO170.out (fun _ hk => hk.2)))
        replace HO170 := Aside0.mk (hp_)
        replace HB := Aside0.mk (hB_ _ _ HB.out GB43.out)
        clear hg hp_ hB_ hrun_
        refine hK.out _ _ trivial (fun hHeld => ?_)
        clear hK K
        refine norm_ (a' := ?_) ?_ ?_
        rotate_left
        ·show Act.put _ (some 117) _ = _
         simp only [pz_]
         rfl
        refine done_ (done_of HT_.out (by kernel_rfl)) ?_
        obtain ⟨hcz51_0, hcz51_1, hcz51_2, hfz51_0, hfz51_1, hfz51_2⟩ := bk3_ BK160.out
        have p44 : 0 ≤ (x9_3 : Int) := od_
        have q44 : (x9_3 : Int) < ((y168.length : Int) : Int) := od_
        replace p44 := eq_true p44
        replace q44 := eq_true q44
        have HX52 := Aside0.mk (show Kd.R k81 81 w50 w.heap.size (fun k_ => some k_ ≠ (.slice (some ad159) x23_2.length co17 : Value).ownBlock ∧ k_ ≠ gb160) (.slice (some ⟨go43, 0, none⟩) y168.length co43) y171 from (rk_ HO170.out))
        obtain ⟨ce52, hcl52, hM52, hcc52, hfr52⟩ := Kd.R_elem HX52.out z81 (x9_3 : Int) od_ (by have h_ : (x9_3 : Int) < ((y168.length : Int) : Int) := od_; first | exact h_ | (have e_ := (Kd.R_reads' HO170.out).1; omega) | simpa using h_)
        obtain rfl := k81_openM hM52
        have HP52 := Kd.R_seg HX52.out (x9_3 : Int) od_ (by have h_ : (x9_3 : Int) < ((y168.length : Int) : Int) := od_; first | exact h_ | (have e_ := (Kd.R_reads' HO170.out).1; omega) | simpa using h_) (seg := [.int .i64 ((rd_T81 x23_2 x25_2).f0), .int .i64 ((rd_T81 x23_2 x25_2).f1), .int .i64 ((rd_T81 x23_2 x25_2).f2)]) (j := 0) hcl52 hcc52 (show 3 ≤ 3 from by decide) (x' := (⟨((rd_T81 x23_2 x25_2).f0), ((rd_T81 x23_2 x25_2).f1), ((rd_T81 x23_2 x25_2).f2)⟩ : S81)) (k81_mkM _ _ _ (⟨((rd_T81 x23_2 x25_2).f0), ((rd_T81 x23_2 x25_2).f1), ((rd_T81 x23_2 x25_2).f2)⟩ : S81) ) (fun _ hk => hk)
        have hx52_0 := hcc52 0 _ rfl
        (try simp only [show (k81).sz = 3 from rfl, Nat.mul_one, Nat.add_zero] at hx52_0)
        have hf52_0 := hfr52 0
        (try simp only [show (k81).sz = 3 from rfl, Nat.mul_one, Nat.add_zero] at hf52_0)
        have hx52_1 := hcc52 1 _ rfl
        (try simp only [show (k81).sz = 3 from rfl, Nat.mul_one, Nat.add_zero] at hx52_1)
        have hf52_1 := hfr52 1
        (try simp only [show (k81).sz = 3 from rfl, Nat.mul_one, Nat.add_zero] at hf52_1)
        have hx52_2 := hcc52 2 _ rfl
        (try simp only [show (k81).sz = 3 from rfl, Nat.mul_one, Nat.add_zero] at hx52_2)
        have hf52_2 := hfr52 2
        (try simp only [show (k81).sz = 3 from rfl, Nat.mul_one, Nat.add_zero] at hf52_2)
        clear hcl52 hcc52 hfr52 hM52
        try go_wp2_with (first | ((with_reducible refine gate_store (t := 81) (p := 121) rfl ?_); refine store_event (t := 81) (p := 121) (v := ?vo_w53) (w1 := (((w50.setCell ⟨go43, (x9_3 : Int).toNat * 3, none⟩ (.int .i64 ((rd_T81 x23_2 x25_2).f0))).setCell ⟨go43, (x9_3 : Int).toNat * 3 + 1, none⟩ (.int .i64 ((rd_T81 x23_2 x25_2).f1))).setCell ⟨go43, (x9_3 : Int).toNat * 3 + 2, none⟩ (.int .i64 ((rd_T81 x23_2 x25_2).f2)))) ?hg ?ho ?hn ?hr ?_; (case ho => rfl); (case hg => rfl); (case hn => rfl); (case hr => first | (go_simp; done) | (go_simp; rfl)); intro w53 hw; have hg : w50.grownBy w53 (some go43) := (by rw [hw]; exact HP52.2); have hp_ : Kd.R k81 81 w53 w.heap.size (fun k_ => some k_ ≠ (.slice (some ad159) x23_2.length co17 : Value).ownBlock ∧ k_ ≠ gb160) (.slice (some ⟨go43, 0, none⟩) y168.length co43) y172 := (by rw [hw, Ny172.out]; exact HP52.1); clear HP52; replace HO_23 := Aside0.mk (Kd.R_after (v := (.slice (some ⟨go43, 0, none⟩) y168.length co43)) (v1 := (.slice (some ⟨go43, 0, none⟩) y168.length co43)) (ok := (fun k_ => k_ ≠ gb160)) (rk_ (Kd.R_mono HO_23.out (fun _ hk => ⟨hk.2, hk.1⟩))) hg (.inl rfl)); replace BK160 := Aside0.mk (blk_grown (g := gb160) (o := .cells #[.int .i64 ((rd_T81 x23_2 x25_2).f0), .int .i64 ((rd_T81 x23_2 x25_2).f1), .int .i64 ((rd_T81 x23_2 x25_2).f2)] 81 (0, 0)) (r5_ BK160.out) hg (Kd.R_away HO170.out (fun _ hk => hk.2))); replace HO170 := Aside0.mk (hp_); replace HB := Aside0.mk ((by rw [hw]; exact below_set (below_set (below_set (HB.out) GB43.out) GB43.out) GB43.out : Below w.heap.size w w53)); clear hg hw hp_))
        (try simp only [← hl23_2])
        go_roundg k3
        case measure => have := HJ2.out; have := HK2.out; have := HK3.out; omega
        case rel => exact ⟨(y172), (x23_2), (wrap64 (x25_2 + 1)), rs_, H', ⟨by have := HJ2.out; have := HK2.out; have := HK3.out; omega⟩, ⟨by (try simp only [hl23_2]); (with_reducible repeat (first | apply Kd.R_alloc | apply Kd.R_drewN | apply Kd.R_drew)); exact Kd.R_mono HO170.out (fun _ hk => hk.1)⟩, ⟨by (try simp only [hl23_2]); (with_reducible repeat (first | apply Kd.R_alloc | apply Kd.R_drewN | apply Kd.R_drew)); exact Kd.R_mono HO_23.out (fun _ hk => hk.2)⟩, ⟨r3_ HB.out GE160.out⟩⟩
       rw [if_pos c33] at H
       have c33b0 := beq_iff_eq.mpr c33
       have c33b1 := bne_eq_false_iff_eq.mpr c33
       clear c33
       obtain ⟨ji34, hji34⟩ : ∃ j_ : Int, (mx ((rd_T81 x6_2 (ji25)).f2) ((rd_T81 x23_2 x25_2).f2)) = j_ := ⟨_, rfl⟩
       replace H : (impl_MergeTables.l0 k3 (x6_2.set ((ji25) : Int).toNat (⟨(rd_T81 x6_2 (ji25)).f0, (rd_T81 x6_2 (ji25)).f1, ji34⟩ : S81)) x23_2 (y156.length : Int) (wrap64 (x25_2 + 1))) = some (r1, r2) := by first | (rw [hji34] at H; exact H) | (simp only [hji34] at H ⊢; exact H)
       have hji34_ : (if ((rd_T81 x6_2 (ji25)).f2) < ((rd_T81 x23_2 x25_2).f2) then ((rd_T81 x23_2 x25_2).f2) else ((rd_T81 x6_2 (ji25)).f2)) = ji34 := hji34
       obtain ⟨y167, hy167⟩ : ∃ y_ : List (S81), y_ = (x6_2.set ((ji25) : Int).toNat (⟨(rd_T81 x6_2 (ji25)).f0, (rd_T81 x6_2 (ji25)).f1, ji34⟩ : S81)) := ⟨_, rfl⟩
       replace H : (impl_MergeTables.l0 k3 y167 x23_2 (y156.length : Int) (wrap64 (x25_2 + 1))) = some (r1, r2) := by first | (rw [hy167]; with_reducible exact H) | (have H2_ := (Option.bind_some _ _).symm.trans H; rw [hy167]; with_reducible exact H2_) | (have H2_ := (Option.bind_some _ _).symm.trans H; with_reducible exact H2_) | with_reducible exact H | (rw [hy167]; exact H) | exact H
       have Ny167 := Aside0.mk hy167
       clear hy167
       have H' := Aside0.mk H
       clear H
       try go_wp2
       replace HO_6 := Aside0.mk (Kd.R_drew HO_6.out)
       replace HO_23 := Aside0.mk (Kd.R_drew HO_23.out)
       replace BK160 := Aside0.mk (blk_drew BK160.out)
       replace HB := Aside0.mk (below_drew1 HB.out)
       have p161 : 0 ≤ ((ji25) : Int) := od_
       have q161 : (ji25) < (x6_2.length : Int) := od_
       obtain ⟨ad161, e161, hx161_0, hx161_1, hx161_2⟩ := at_T81 (Kd.R_reads' HO_6.out).2.2 (ji25) p161 q161
       cases e161
       replace p161 := eq_true p161
       replace q161 := eq_true q161
       have p162 : 0 ≤ ((ji25) : Int) := od_
       have q162 : (ji25) < (x6_2.length : Int) := od_
       obtain ⟨ad162, e162, hx162_0, hx162_1, hx162_2⟩ := at_T81 (Kd.R_reads' HO_6.out).2.2 (ji25) p162 q162
       obtain rfl : ad161 = ad162 := (by injection e162)
       replace p162 := eq_true p162
       replace q162 := eq_true q162
       have p163 : 0 ≤ ((ji25) : Int) := od_
       have q163 : (ji25) < (x6_2.length : Int) := od_
       obtain ⟨ad163, e163, hx163_0, hx163_1, hx163_2⟩ := at_T81 (Kd.R_reads' HO_6.out).2.2 (ji25) p163 q163
       obtain rfl : ad161 = ad163 := (by injection e163)
       replace p163 := eq_true p163
       replace q163 := eq_true q163
       refine start_ (n := 35) (S := fun w' => w'.cell? ⟨gb160, 0, none⟩ = some (.int .i64 ((rd_T81 x23_2 x25_2).f0)) ∧ w'.cell? ⟨gb160, 1, none⟩ = some (.int .i64 ((rd_T81 x23_2 x25_2).f1)) ∧ w'.cell? ⟨gb160, 2, none⟩ = some (.int .i64 ((rd_T81 x23_2 x25_2).f2)) ∧ w'.cell? (ad161.add (((ji25)).toNat * 3)) = some (.int .i64 ((rd_T81 x6_2 (ji25)).f0)) ∧ w'.cell? ⟨(ad161.add (((ji25)).toNat * 3)).block, (ad161.add (((ji25)).toNat * 3)).off + 1, none⟩ = some (.int .i64 ((rd_T81 x6_2 (ji25)).f1)) ∧ w'.cell? ⟨(ad161.add (((ji25)).toNat * 3)).block, (ad161.add (((ji25)).toNat * 3)).off + 2, none⟩ = some (.int .i64 ((rd_T81 x6_2 (ji25)).f2)) ∧ w'.cell? (ad161.add (((ji25)).toNat * 3)) = some (.int .i64 ((rd_T81 x6_2 (ji25)).f0)) ∧ w'.cell? ⟨(ad161.add (((ji25)).toNat * 3)).block, (ad161.add (((ji25)).toNat * 3)).off + 1, none⟩ = some (.int .i64 ((rd_T81 x6_2 (ji25)).f1)) ∧ w'.cell? ⟨(ad161.add (((ji25)).toNat * 3)).block, (ad161.add (((ji25)).toNat * 3)).off + 2, none⟩ = some (.int .i64 ((rd_T81 x6_2 (ji25)).f2)) ∧ w'.cell? (ad161.add (((ji25)).toNat * 3)) = some (.int .i64 ((rd_T81 x6_2 (ji25)).f0)) ∧ w'.cell? ⟨(ad161.add (((ji25)).toNat * 3)).block, (ad161.add (((ji25)).toNat * 3)).off + 1, none⟩ = some (.int .i64 ((rd_T81 x6_2 (ji25)).f1)) ∧ w'.cell? ⟨(ad161.add (((ji25)).toNat * 3)).block, (ad161.add (((ji25)).toNat * 3)).off + 2, none⟩ = some (.int .i64 ((rd_T81 x6_2 (ji25)).f2))) (ds := []) #[f_,f_,f_,f_,f_,f_,f_,f_,f_,f_,f_,f_,f_,f_,f_,f_,f_,f_,f_,f_,f_,f_,f_,f_,f_,f_,f_,f_,f_,f_,f_,f_,f_,f_,f_] (by kernel_rfl) rfl rfl ⟨(blk_cell BK160.out 0).trans rfl, (blk_cell BK160.out 1).trans rfl, (blk_cell BK160.out 2).trans rfl, hx161_0, hx161_1, hx161_2, hx162_0, hx162_1, hx162_2, hx163_0, hx163_1, hx163_2⟩ (fun hHeld => ?_); refine with_tabW impl_MergeTables.tab8 impl_MergeTables.bits8 (fun HT_ HW_ => ?_)
       generalize wr.drew = w36 at HO_6 HO_23 BK160 HB hx161_0 hx161_1 hx161_2 hx162_0 hx162_1 hx162_2 hx163_0 hx163_1 hx163_2 hHeld ⊢
       refine pv_ 0 31 HT_.out ?_
       refine pv_ 1 32 HT_.out ?_
       refine pv_ 2 33 HT_.out ?_
       refine pv_ 3 34 HT_.out ?_
       refine pv_ 4 35 HT_.out ?_
       refine pv_ 5 36 HT_.out ?_
       refine pv_ 6 37 HT_.out ?_
       refine pv_ 7 38 HT_.out ?_
       refine pv_ 9 40 HT_.out ?_
       refine tv12_ 8 39 HT_.out HW_.out hHeld ?_
       refine tv12_ 10 41 HT_.out HW_.out hHeld ?_
       refine pv_ 11 42 HT_.out ?_
       refine pv_ 12 43 HT_.out ?_
       refine pv_ 13 44 HT_.out ?_
       refine pv_ 14 45 HT_.out ?_
       refine pv_ 15 46 HT_.out ?_
       refine pv_ 16 47 HT_.out ?_
       refine pv_ 17 48 HT_.out ?_
       refine pv_ 19 50 HT_.out ?_
       refine tv12_ 18 49 HT_.out HW_.out hHeld ?_
       refine tv12_ 20 51 HT_.out HW_.out hHeld ?_
       refine pv_ 21 52 HT_.out ?_
       refine pv_ 22 53 HT_.out ?_
       refine pv_ 23 54 HT_.out ?_
       refine pv_ 24 55 HT_.out ?_
       refine pv_ 25 56 HT_.out ?_
       refine pv_ 26 57 HT_.out ?_
       refine pv_ 27 58 HT_.out ?_
       refine pv_ 29 60 HT_.out ?_
       refine tv12_ 28 59 HT_.out HW_.out hHeld ?_
       refine tv12_ 30 61 HT_.out HW_.out hHeld ?_
       refine pv_ 31 62 HT_.out ?_
       refine pv_ 32 63 HT_.out ?_
       refine pv_ 33 64 HT_.out ?_
       refine pu_ 34 65 #[t_,t_,t_,t_,t_,t_,t_,t_,t_,t_,t_,t_,t_,t_,t_,t_,t_,t_,t_,t_,t_,t_,t_,t_,t_,t_,t_,t_,t_,t_,t_,t_,t_,t_,t_] HT_.out ?_
       refine done_ (done_of HT_.out (by kernel_rfl)) ?_
       try go_wp2
       replace HO_6 := Aside0.mk (Kd.R_drew HO_6.out)
       replace HO_23 := Aside0.mk (Kd.R_drew HO_23.out)
       replace BK160 := Aside0.mk (blk_drew BK160.out)
       replace HB := Aside0.mk (below_drew1 HB.out)
       have p164 : 0 ≤ ((ji25) : Int) := od_
       have q164 : (ji25) < (x6_2.length : Int) := od_
       obtain ⟨ad164, e164, hx164_0, hx164_1, hx164_2⟩ := at_T81 (Kd.R_reads' HO_6.out).2.2 (ji25) p164 q164
       obtain rfl : ad161 = ad164 := (by injection e164)
       replace p164 := eq_true p164
       replace q164 := eq_true q164
       have p165 : 0 ≤ ((ji25) : Int) := od_
       have q165 : (ji25) < (x6_2.length : Int) := od_
       obtain ⟨ad165, e165, hx165_0, hx165_1, hx165_2⟩ := at_T81 (Kd.R_reads' HO_6.out).2.2 (ji25) p165 q165
       obtain rfl : ad161 = ad165 := (by injection e165)
       replace p165 := eq_true p165
       replace q165 := eq_true q165
       refine start_ (n := 24) (S := fun w' => w'.cell? ⟨gb160, 0, none⟩ = some (.int .i64 ((rd_T81 x23_2 x25_2).f0)) ∧ w'.cell? ⟨gb160, 1, none⟩ = some (.int .i64 ((rd_T81 x23_2 x25_2).f1)) ∧ w'.cell? ⟨gb160, 2, none⟩ = some (.int .i64 ((rd_T81 x23_2 x25_2).f2)) ∧ w'.cell? (ad161.add (((ji25)).toNat * 3)) = some (.int .i64 ((rd_T81 x6_2 (ji25)).f0)) ∧ w'.cell? ⟨(ad161.add (((ji25)).toNat * 3)).block, (ad161.add (((ji25)).toNat * 3)).off + 1, none⟩ = some (.int .i64 ((rd_T81 x6_2 (ji25)).f1)) ∧ w'.cell? ⟨(ad161.add (((ji25)).toNat * 3)).block, (ad161.add (((ji25)).toNat * 3)).off + 2, none⟩ = some (.int .i64 ((rd_T81 x6_2 (ji25)).f2)) ∧ w'.cell? (ad161.add (((ji25)).toNat * 3)) = some (.int .i64 ((rd_T81 x6_2 (ji25)).f0)) ∧ w'.cell? ⟨(ad161.add (((ji25)).toNat * 3)).block, (ad161.add (((ji25)).toNat * 3)).off + 1, none⟩ = some (.int .i64 ((rd_T81 x6_2 (ji25)).f1)) ∧ w'.cell? ⟨(ad161.add (((ji25)).toNat * 3)).block, (ad161.add (((ji25)).toNat * 3)).off + 2, none⟩ = some (.int .i64 ((rd_T81 x6_2 (ji25)).f2))) (ds := []) #[f_,f_,f_,f_,f_,f_,f_,f_,f_,f_,f_,f_,f_,f_,f_,f_,f_,f_,f_,f_,f_,f_,f_,f_] (by kernel_rfl) rfl rfl ⟨(blk_cell BK160.out 0).trans rfl, (blk_cell BK160.out 1).trans rfl, (blk_cell BK160.out 2).trans rfl, hx164_0, hx164_1, hx164_2, hx165_0, hx165_1, hx165_2⟩ (fun hHeld => ?_); refine with_tabW impl_MergeTables.tab10 impl_MergeTables.bits10 (fun HT_ HW_ => ?_)
       generalize w36.drew = w37 at HO_6 HO_23 BK160 HB hx164_0 hx164_1 hx164_2 hx165_0 hx165_1 hx165_2 hHeld ⊢
       refine pv_ 0 68 HT_.out ?_
       refine pv_ 1 69 HT_.out ?_
       refine pv_ 2 70 HT_.out ?_
       refine pv_ 3 71 HT_.out ?_
       refine pv_ 4 72 HT_.out ?_
       refine pv_ 5 73 HT_.out ?_
       refine pv_ 6 74 HT_.out ?_
       refine pv_ 7 75 HT_.out ?_
       refine pv_ 9 77 HT_.out ?_
       refine tv9_ 8 76 HT_.out HW_.out hHeld ?_
       refine tv9_ 10 78 HT_.out HW_.out hHeld ?_
       refine pv_ 11 79 HT_.out ?_
       refine pv_ 12 80 HT_.out ?_
       refine pv_ 13 81 HT_.out ?_
       refine pv_ 14 82 HT_.out ?_
       refine pv_ 15 83 HT_.out ?_
       refine pv_ 16 84 HT_.out ?_
       refine pv_ 17 85 HT_.out ?_
       refine pv_ 18 86 HT_.out ?_
       refine pv_ 20 88 HT_.out ?_
       refine tv9_ 19 87 HT_.out HW_.out hHeld ?_
       refine tv9_ 21 89 HT_.out HW_.out hHeld ?_
       refine pv_ 22 90 HT_.out ?_
       refine pu_ 23 91 #[t_,t_,t_,t_,t_,t_,t_,t_,t_,t_,t_,t_,t_,t_,t_,t_,t_,t_,t_,t_,t_,t_,t_,t_] HT_.out ?_
       refine done_ (done_of HT_.out (by kernel_rfl)) ?_
       try go_wp2
       replace HO_6 := Aside0.mk (Kd.R_drew HO_6.out)
       replace HO_23 := Aside0.mk (Kd.R_drew HO_23.out)
       replace BK160 := Aside0.mk (blk_drew BK160.out)
       replace HB := Aside0.mk (below_drew1 HB.out)
       have p166 : 0 ≤ ((ji25) : Int) := od_
       have q166 : (ji25) < (x6_2.length : Int) := od_
       obtain ⟨ad166, e166, hx166_0, hx166_1, hx166_2⟩ := at_T81 (Kd.R_reads' HO_6.out).2.2 (ji25) p166 q166
       obtain rfl : ad161 = ad166 := (by injection e166)
       replace p166 := eq_true p166
       replace q166 := eq_true q166
       have p35 : 0 ≤ ((ji25) : Int) := od_
       have q35 : ((ji25) : Int) < ((x6_2.length : Int) : Int) := od_
       obtain ⟨go35, co35, eo35, gb35, gl35, cl35, HG35⟩ := Kd.R_form HO_6.out (by omega)
       (first | cases eo35 | (injection eo35 with ea_ en_ ec_; (first | subst ea_ | (injection ea_ with ea_; subst ea_)); subst ec_; clear en_))
       have GB35 := Aside0.mk gb35
       have GG35 := Aside0.mk HG35
       clear gb35 gl35 HG35
       (first | simp only [add_plain] at hx161_0 | skip)
       (first | simp only [add_plain] at hx161_1 | skip)
       (first | simp only [add_plain] at hx161_2 | skip)
       (first | simp only [add_plain] at hx162_0 | skip)
       (first | simp only [add_plain] at hx162_1 | skip)
       (first | simp only [add_plain] at hx162_2 | skip)
       (first | simp only [add_plain] at hx163_0 | skip)
       (first | simp only [add_plain] at hx163_1 | skip)
       (first | simp only [add_plain] at hx163_2 | skip)
       (first | simp only [add_plain] at hx164_0 | skip)
       (first | simp only [add_plain] at hx164_1 | skip)
       (first | simp only [add_plain] at hx164_2 | skip)
       (first | simp only [add_plain] at hx165_0 | skip)
       (first | simp only [add_plain] at hx165_1 | skip)
       (first | simp only [add_plain] at hx165_2 | skip)
       (first | simp only [add_plain] at hx166_0 | skip)
       (first | simp only [add_plain] at hx166_1 | skip)
       (first | simp only [add_plain] at hx166_2 | skip)
       obtain ⟨ce35, hcl35, hM35, hcc35, hfr35⟩ := Kd.R_elem HO_6.out z81 ((ji25) : Int) p35 q35
       obtain rfl := k81_openM hM35
       have hx35_0 : World.cell? _ ⟨go35, ((ji25) : Int).toNat * 3, none⟩ = some (.int .i64 ((rd_T81 x6_2 (ji25)).f0)) := hcc35 0 _ rfl
       have hx35_1 : World.cell? _ ⟨go35, ((ji25) : Int).toNat * 3 + 1, none⟩ = some (.int .i64 ((rd_T81 x6_2 (ji25)).f1)) := hcc35 1 _ rfl
       have hx35_2 : World.cell? _ ⟨go35, ((ji25) : Int).toNat * 3 + 2, none⟩ = some (.int .i64 ((rd_T81 x6_2 (ji25)).f2)) := hcc35 2 _ rfl
       have hf35_0 : World.frozen? _ ⟨go35, ((ji25) : Int).toNat * 3, none⟩ = false := hfr35 0
       have hf35_1 : World.frozen? _ ⟨go35, ((ji25) : Int).toNat * 3 + 1, none⟩ = false := hfr35 1
       have hf35_2 : World.frozen? _ ⟨go35, ((ji25) : Int).toNat * 3 + 2, none⟩ = false := hfr35 2
       clear hcl35 hcc35 hfr35 hM35
       replace p35 := eq_true p35
       replace q35 := eq_true q35
       obtain ⟨ce39, hcl39, hM39, hcc39, hfr39⟩ := Kd.R_elem HO_6.out z81 ((ji25) : Int) od_ (by have h_ : ((ji25) : Int) < ((x6_2.length : Int) : Int) := od_; first | exact h_ | (have e_ := (Kd.R_reads' HO_6.out).1; omega) | simpa using h_)
       obtain rfl := k81_openM hM39
       have HP39 := (Kd.R_seg HO_6.out ((ji25) : Int) od_ (by have h_ : ((ji25) : Int) < ((x6_2.length : Int) : Int) := od_; first | exact h_ | (have e_ := (Kd.R_reads' HO_6.out).1; omega) | simpa using h_) (seg := [.int .i64 ji34]) (j := 2) hcl39 hcc39 (show 3 ≤ 3 from by decide) (x' := (⟨(rd_T81 x6_2 (ji25)).f0, (rd_T81 x6_2 (ji25)).f1, ji34⟩ : S81)) (k81_mkM _ _ _ (⟨(rd_T81 x6_2 (ji25)).f0, (rd_T81 x6_2 (ji25)).f1, ji34⟩ : S81) ) (fun _ hk => hk)).1
       rw [← Ny167.out] at HP39
       have HQ39 := Aside0.mk HP39
       clear hcl39 hcc39 hfr39 hM39 HP39
       refine start_ (n := 15) (S := fun w' => w'.cell? ⟨gb160, 0, none⟩ = some (.int .i64 ((rd_T81 x23_2 x25_2).f0)) ∧ w'.cell? ⟨gb160, 1, none⟩ = some (.int .i64 ((rd_T81 x23_2 x25_2).f1)) ∧ w'.cell? ⟨gb160, 2, none⟩ = some (.int .i64 ((rd_T81 x23_2 x25_2).f2)) ∧ w'.cell? ⟨go35, ((ji25)).toNat * 3, none⟩ = some (.int .i64 ((rd_T81 x6_2 (ji25)).f0)) ∧ w'.cell? ⟨go35, ((ji25)).toNat * 3 + 1, none⟩ = some (.int .i64 ((rd_T81 x6_2 (ji25)).f1)) ∧ w'.cell? ⟨go35, ((ji25)).toNat * 3 + 2, none⟩ = some (.int .i64 ((rd_T81 x6_2 (ji25)).f2))) (ds := [14]) #[f_,f_,f_,f_,f_,f_,f_,f_,f_,f_,f_,f_,f_,f_,f_] (by kernel_rfl) rfl rfl ⟨(blk_cell BK160.out 0).trans rfl, (blk_cell BK160.out 1).trans rfl, (blk_cell BK160.out 2).trans rfl, hx166_0, hx166_1, hx166_2⟩ (fun hHeld => ?_); refine with_tabW impl_MergeTables.tab11 impl_MergeTables.bits11 (fun HT_ HW_ => ?_)
       generalize w37.drew = w38 at HO_6 HO_23 BK160 HB GG35 HQ39 hf35_0 hf35_1 hf35_2 hx161_0 hx161_1 hx161_2 hx162_0 hx162_1 hx162_2 hx163_0 hx163_1 hx163_2 hx164_0 hx164_1 hx164_2 hx165_0 hx165_1 hx165_2 hx166_0 hx166_1 hx166_2 hx35_0 hx35_1 hx35_2 hHeld ⊢
       refine pv_ 0 92 HT_.out ?_
       refine pv_ 1 93 HT_.out ?_
       refine pv_ 2 94 HT_.out ?_
       refine pv_ 3 95 HT_.out ?_
       refine pv_ 4 96 HT_.out ?_
       refine pv_ 5 97 HT_.out ?_
       refine pv_ 6 98 HT_.out ?_
       refine pv_ 7 99 HT_.out ?_
       refine pv_ 9 101 HT_.out ?_
       refine tv6_ 8 100 HT_.out HW_.out hHeld ?_
       refine tv6_ 10 102 HT_.out HW_.out hHeld ?_
       refine pv_ 11 103 HT_.out ?_
       refine pv_ 12 104 HT_.out ?_
       refine pu_ 13 105 #[t_,t_,t_,t_,t_,t_,t_,t_,t_,t_,t_,t_,t_,t_,f_] HT_.out ?_
       refine last_ (i := 14) (N := none) #[t_,t_,t_,t_,t_,t_,t_,t_,t_,t_,t_,t_,t_,t_,t_] rfl rfl (one_of HT_.out (by kernel_rfl)) (by decide) (fun K hK => ?_)
       refine skip_ (w1 := ?_) (by rfl) rfl ?_ ?_
       rotate_left
       ·go_simp
        rfl
       refine hK.out _ _ ?_
       clear hK K
       refine done_ (done_of HT_.out (by kernel_rfl)) ?_
       try go_wp2
       (try simp only [← hl23_2])
       go_roundg k3
       case measure => have := HJ2.out; have := HK2.out; have := HK3.out; omega
       case rel => exact ⟨(y167), (x23_2), (wrap64 (x25_2 + 1)), rs_, H', ⟨by have := HJ2.out; have := HK2.out; have := HK3.out; omega⟩, ⟨by (try simp only [hl23_2]); (with_reducible repeat (first | apply Kd.R_alloc | apply Kd.R_drewN | apply Kd.R_drew)); exact Kd.R_mono HQ39.out (fun _ hk => hk.1)⟩, ⟨by (try simp only [hl23_2]); (with_reducible repeat (first | apply Kd.R_alloc | apply Kd.R_drewN | apply Kd.R_drew)); exact Kd.R_mono (Kd.R_far (p := ⟨go35, ((ji25) : Int).toNat * 3 + 2, none⟩) (Kd.R_mono HO_23.out (fun k_ hk => (⟨hk, fun e_ => hk.1 (by rw [e_]; rfl)⟩ : _ ∧ k_ ≠ go35))) (fun _ hk => hk.2) (.int .i64 ji34)) (fun _ hk => hk.1.1)⟩, ⟨r16_ HB.out GB35.out GE160.out⟩⟩
end Go.Proofs.Ytedcdhnbceaaeaa.PFnTables
