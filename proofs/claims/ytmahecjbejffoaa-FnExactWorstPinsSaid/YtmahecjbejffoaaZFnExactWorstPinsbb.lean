/- Own of the law FnExactWorstPins: taken over, declaration by declaration, as far as the law leans on it (the words and the printed functions are the kit's own print). No condition but what each says. -/
import Derived.Test.YtmahecjbejffoaaZFnExactWorstPinsau
import Derived.Test.YtmahecjbejffoaaZFnExactWorstPinsaj
import Derived.Test.YtmahecjbejffoaaZFnExactWorstPinsaf
import Derived.Test.YtmahecjbejffoaaZFnExactWorstPinsba
namespace Go.Proofs.Ytmahecjbejffoaa.Owned
open Go.RowKit Go.Proofs.YtmahecjbejffoaaW.PrintWords Go.Proofs.YtmahecjbejffoaaW.PrintMore
section
variable {α : Type} {d : Kd α} {e lo hi b0 : Nat} {w w0 w1 : World} {v : Value} {xs : List α} {A : Option Addr} {n c : Nat}
/-- A row made between two heights of the heap. -/
structure Ow (d : Kd α) (e : Nat) (w : World) (lo hi : Nat) (v : Value) (xs : List α) : Prop where
  r : d.R e w lo (fun b => b < hi) v xs
  le : hi ≤ w.heap.size
theorem Ow.below (h : Ow d e w lo hi v xs) (hb : Below w.heap.size w w1) : Ow d e w1 lo hi v xs := ⟨Kd.R_below h.r hb, Nat.le_trans h.le hb.size⟩
theorem Ow.alloc (h : Ow d e w lo hi v xs) (o : Obj) : Ow d e (w.alloc o) lo hi v xs := h.below (below_alloc (Below.refl _ _) o)
theorem Ow.drew (h : Ow d e w lo hi v xs) : Ow d e w.drew lo hi v xs := h.below (below_drew (Below.refl _ _))
theorem Ow.drewN (h : Ow d e w lo hi v xs) (m : Nat) : Ow d e (w.drewN m) lo hi v xs := h.below (pw_below_drewN (Below.refl _ _) m)
theorem Ow.new (hr : d.R e w1 w.heap.size (fun _ => True) v xs) : Ow d e w1 w.heap.size w1.heap.size v xs := ⟨Kd.R_mono (Kd.R_bound hr) (fun _ hk => hk.2.2.1), Nat.le_refl _⟩
theorem Ow.kept (h : Ow d e w lo hi v xs) {lo' hi' : Nat} (hk : Kept w w1 (fun b => lo' ≤ b ∧ b < hi')) (hd : hi ≤ lo' ∨ hi' ≤ lo) : Ow d e w1 lo hi v xs :=
  ⟨Kd.R_mono (Kd.R_kept (Kd.R_mono (ok' := fun k => lo ≤ k ∧ k < hi) (Kd.R_bound h.r) (fun _ hk => ⟨hk.2.1, hk.1⟩)) hk (fun k ho hs => by omega)) (fun _ hk => hk.2), Nat.le_trans h.le hk.1⟩
theorem Ow.forMark (h : Ow d e w lo hi v xs) (hb : b0 ≤ lo) : d.R e w b0 (fun b => lo ≤ b ∧ b < hi) v xs := Kd.R_lower (Kd.R_mono (Kd.R_bound h.r) (fun _ hk => ⟨hk.2.1, hk.1⟩)) hb
theorem Ow.marked {P : Nat → Prop} (hr : d.R e w1 b0 (fun k => P k ∨ w.heap.size ≤ k) v xs) : Ow d e w1 b0 w1.heap.size v xs := ⟨Kd.R_mono (Kd.R_bound hr) (fun _ hk => hk.2.2.1), Nat.le_refl _⟩
theorem Ow.slice (h : Ow d e w lo hi v xs) : ∃ A c, v = .slice A xs.length c := Kd.R_slice h.r
theorem Ow.C (h : Ow d e w lo hi (.slice A n c) xs) : d.C w A xs.length xs := (Kd.R_reads' h.r).2.2
theorem Ow.cap (h : Ow d e w lo hi (.slice A n c) xs) : xs.length ≤ c := by have := Kd.R_reads' h.r; omega
/-- Whatever was made lies below the heap's height. -/
structure Tp (top : Nat) (w : World) : Prop where
  le : top ≤ w.heap.size
theorem Tp.below {top : Nat} (h : Tp top w) (hb : Below w.heap.size w w1) : Tp top w1 := ⟨Nat.le_trans h.le hb.size⟩
theorem Tp.alloc {top : Nat} (h : Tp top w) (o : Obj) : Tp top (w.alloc o) := h.below (below_alloc (Below.refl _ _) o)
theorem Tp.drew {top : Nat} (h : Tp top w) : Tp top w.drew := h.below (below_drew (Below.refl _ _))
theorem Tp.drewN {top : Nat} (h : Tp top w) (m : Nat) : Tp top (w.drewN m) := h.below (pw_below_drewN (Below.refl _ _) m)
theorem Ow.pack {top : Nat} (hr : d.R e w1 w.heap.size (fun _ => True) v xs) (ht : Tp top w) (hs : w.heap.size ≤ w1.heap.size) : ∃ lo hi, Aside0 (Ow d e w1 lo hi v xs) ∧ Aside0 (top ≤ lo ∧ lo ≤ hi) ∧ Aside0 (Tp hi w1) :=
  ⟨w.heap.size, w1.heap.size, ⟨Ow.new hr⟩, ⟨⟨ht.le, hs⟩⟩, ⟨⟨Nat.le_refl _⟩⟩⟩
/-- Rows of a row, each apart, made between two heights of the heap. -/
structure OwS (d : Kd α) (e : Nat) (w : World) (lo hi : Nat) (v : Value) (xs : List α) : Prop where
  r : d.S e w lo (fun b => b < hi) v xs
  le : hi ≤ w.heap.size
theorem OwS.below (h : OwS d e w lo hi v xs) (hb : Below w.heap.size w w1) : OwS d e w1 lo hi v xs := ⟨Kd.S_below h.r hb, Nat.le_trans h.le hb.size⟩
theorem OwS.alloc (h : OwS d e w lo hi v xs) (o : Obj) : OwS d e (w.alloc o) lo hi v xs := h.below (below_alloc (Below.refl _ _) o)
theorem OwS.drew (h : OwS d e w lo hi v xs) : OwS d e w.drew lo hi v xs := h.below (below_drew (Below.refl _ _))
theorem OwS.drewN (h : OwS d e w lo hi v xs) (m : Nat) : OwS d e (w.drewN m) lo hi v xs := h.below (pw_below_drewN (Below.refl _ _) m)
theorem OwS.new (hr : d.S e w1 w.heap.size (fun _ => True) v xs) : OwS d e w1 w.heap.size w1.heap.size v xs := ⟨Kd.S_mono (Kd.S_bound hr) (fun _ hk => hk.2.2.1), Nat.le_refl _⟩
theorem OwS.kept (h : OwS d e w lo hi v xs) {lo' hi' : Nat} (hk : Kept w w1 (fun b => lo' ≤ b ∧ b < hi')) (hd : hi ≤ lo' ∨ hi' ≤ lo) : OwS d e w1 lo hi v xs :=
  ⟨Kd.S_mono (Kd.S_kept (Kd.S_mono (ok' := fun k => lo ≤ k ∧ k < hi) (Kd.S_bound h.r) (fun _ hk => ⟨hk.2.1, hk.1⟩)) hk (fun k ho hs => by omega)) (fun _ hk => hk.2), Nat.le_trans h.le hk.1⟩
theorem OwS.forMark (h : OwS d e w lo hi v xs) (hb : b0 ≤ lo) : d.S e w b0 (fun b => lo ≤ b ∧ b < hi) v xs := Kd.S_lower (Kd.S_mono (Kd.S_bound h.r) (fun _ hk => ⟨hk.2.1, hk.1⟩)) hb
theorem OwS.marked {P : Nat → Prop} (hr : d.S e w1 b0 (fun k => P k ∨ w.heap.size ≤ k) v xs) : OwS d e w1 b0 w1.heap.size v xs := ⟨Kd.S_mono (Kd.S_bound hr) (fun _ hk => hk.2.2.1), Nat.le_refl _⟩
theorem OwS.slice (h : OwS d e w lo hi v xs) : ∃ A c, v = .slice A xs.length c := Kd.S_slice h.r
theorem OwS.C (h : OwS d e w lo hi (.slice A n c) xs) : d.C w A xs.length xs := (Kd.S_reads' h.r).2.2
theorem OwS.cap (h : OwS d e w lo hi (.slice A n c) xs) : xs.length ≤ c := by have := Kd.S_reads' h.r; omega
theorem OwS.pack {top : Nat} (hr : d.S e w1 w.heap.size (fun _ => True) v xs) (ht : Tp top w) (hs : w.heap.size ≤ w1.heap.size) : ∃ lo hi, Aside0 (OwS d e w1 lo hi v xs) ∧ Aside0 (top ≤ lo ∧ lo ≤ hi) ∧ Aside0 (Tp hi w1) :=
  ⟨w.heap.size, w1.heap.size, ⟨OwS.new hr⟩, ⟨⟨ht.le, hs⟩⟩, ⟨⟨Nat.le_refl _⟩⟩⟩
/-- A slice whose array is known up to its capacity's head: xs behind the address A. -/
structure Sp (d : Kd α) (w : World) (A : Option Addr) (c : Nat) (xs : List α) : Prop where
  r : d.C w A xs.length xs
  le : xs.length ≤ c
theorem Sp.below (h : Sp d w A c xs) (hb : Below w.heap.size w w1) : Sp d w1 A c xs := ⟨Kd.C_below h.r hb, h.le⟩
theorem Sp.alloc (h : Sp d w A c xs) (o : Obj) : Sp d (w.alloc o) A c xs := h.below (below_alloc (Below.refl _ _) o)
theorem Sp.drew (h : Sp d w A c xs) : Sp d w.drew A c xs := h.below (below_drew (Below.refl _ _))
theorem Sp.drewN (h : Sp d w A c xs) (m : Nat) : Sp d (w.drewN m) A c xs := h.below (pw_below_drewN (Below.refl _ _) m)
/-- What 'toXS' leaves: the slice, and what lies behind its length. -/
def ToPost (d : Kd α) (e : Nat) (n : Nat) (full : List α) (w : World) (en : Ending) (w' : World) : Prop :=
  ∃ A c y, full.take n = y ∧ en = .returned (.slice A y.length c) ∧ d.R e w' w.heap.size (fun _ => True) (.slice A y.length c) y ∧ Sp d w' A c full ∧ Below w.heap.size w w'
end
theorem cut_cap {P : Program} (t e : TypeId) (kh : IntKind) {i : TypeInfo} (ht : P.underlying t = some (.slice e)) (hi : P.info? e = some i) (A : Option Addr) (n c : Nat) (j : Int) (h0 : 0 ≤ j) (hm : j ≤ c) :
    ∀ W : World, (Instr.slice t (.slice A n c) none (some (.int kh j)) none).run P W = .ok (.slice A j.toNat c) W := by
  intro W
  have hel : P.elem t = e := by simp [Program.elem, ht]
  have hu : P.underlying t = some (.slice (P.elem t)) := by rw [hel]; exact ht
  have ha : (A.map fun x => x.add 0) = A := by cases A <;> simp [Addr.add]
  rw [run_slice_h W t A n c hu kh j h0 (by omega), hel]
  simp [sizeOf, typeInfo, hi, sliced, Result.andThen, ha]
end Go.Proofs.Ytmahecjbejffoaa.Owned
