/-
  Worlds that differ from block lo to block hi alone (and by new blocks).
-/
import Derived.Test.YtiikjnokoihhgaaLb
import Derived.Laws.AppendOwn
namespace Go.Lb
open Go.RowKit Go.Fl

structure Wi (lo hi : Nat) (w w' : World) : Prop where
  os : w'.os = w.os
  tape : w'.tape = w.tape
  output : w'.output = w.output
  size : w.heap.size ≤ w'.heap.size
  block : ∀ k, k < w.heap.size → (k < lo ∨ hi ≤ k) → w'.heap[k]? = w.heap[k]?
section
variable {lo hi : Nat} {a w w' : World}
theorem Wi.refl (lo hi : Nat) (w : World) : Wi lo hi w w := ⟨rfl, rfl, rfl, Nat.le_refl _, fun _ _ _ => rfl⟩
theorem Wi.of_grown {row : Option Nat} (h : w.grownBy w' row) (hr : ∀ k, row = some k → lo ≤ k ∧ k < hi) : Wi lo hi w w' :=
  ⟨h.os, h.tape, h.output, h.size, fun k hk hx => h.block k hk (fun e => by have := hr k e.symm; omega)⟩
theorem Wi.of_below (h : Below w.heap.size w w') : Wi lo hi w w' := ⟨h.os, h.tape, h.output, h.size, fun k hk _ => h.block k hk⟩
theorem Wi.trans (h : Wi lo hi a w) (k : Wi lo hi w w') : Wi lo hi a w' :=
  ⟨k.os.trans h.os, k.tape.trans h.tape, k.output.trans h.output, Nat.le_trans h.size k.size, fun i hi hx => (k.block i (Nat.lt_of_lt_of_le hi h.size) hx).trans (h.block i hi hx)⟩
theorem Wi.mono {lo' hi' : Nat} (h : Wi lo hi w w') (h1 : lo' ≤ lo) (h2 : hi ≤ hi') : Wi lo' hi' w w' :=
  ⟨h.os, h.tape, h.output, h.size, fun k hk hx => h.block k hk (by omega)⟩
theorem Wi.below {B : Nat} (h : Wi lo hi w w') (hb : Below B a w) (h1 : B ≤ w.heap.size) (h2 : B ≤ lo) : Below B a w' :=
  hb.trans ⟨h.os, h.tape, h.output, h.size, fun k hk => h.block k (by omega) (.inl (by omega))⟩
theorem Wi.drewN (h : Wi lo hi w w') (n : Nat) : Wi lo hi w (w'.drewN n) := ⟨h.os, h.tape, h.output, h.size, h.block⟩
theorem Wi.set {O : Nat} {w wr : World} (h : Wi O (O + 1) w wr) (j : Nat) (v : Value) : Wi O (O + 1) w (wr.setCell ⟨O, j, none⟩ v) :=
  h.trans ⟨rfl, rfl, rfl, by simp, fun k _ hx => Below.heap_setCell _ _ _ _ (by show k ≠ O; omega)⟩
theorem Blk.wi {g : Nat} {T : TypeId} {cs : List Value} (h : Blk w g T cs) (hw : Wi lo hi w w') (hg : g < lo ∨ hi ≤ g) : Blk w' g T cs := (hw.block g h.lt hg).trans h
theorem Wi.row {row : Option Nat} (h : Wi lo hi w w') : (∀ k, row = some k → k < lo ∨ hi ≤ k) → ∀ k, row = some k → k < w.heap.size → w'.heap[k]? = w.heap[k]? :=
  fun hx k hk hl => h.block k hl (hx k hk)
end
/-- a list's block lies from lo to hi -/
def InR (v : Value) (lo hi : Nat) : Prop := ∀ k, v.ownBlock = some k → lo ≤ k ∧ k < hi
theorem InR.apart {v v' : Value} {lo hi lo' hi' : Nat} (h : InR v lo hi) (h' : InR v' lo' hi') (hx : hi ≤ lo' ∨ hi' ≤ lo) : v.ownBlock = none ∨ v.ownBlock ≠ v'.ownBlock := by
  cases hv : v.ownBlock with
  | none => exact .inl rfl
  | some k =>
    refine .inr fun he => ?_
    have h1 := h k hv
    have h2 := h' k he.symm
    omega
theorem InR.mono {v : Value} {lo hi lo' hi' : Nat} (h : InR v lo hi) (h1 : lo' ≤ lo) (h2 : hi ≤ hi') : InR v lo' hi' := fun k hk => by
  have := h k hk
  omega
/-- what is owned by a list stays owned where another range is written -/
theorem owns_wi {w w' : World} {lo hi base : Nat} {e : TypeId} {size : Nat} {v : Value} {n : Nat} {xs : List Value} (h : w.ownsRow base e size v n xs) (hw : Wi lo hi w w') (hx : ∀ k, v.ownBlock = some k → k < lo ∨ hi ≤ k) : w'.ownsRow base e size v n xs := by
  refine ⟨h.1, ?_⟩
  rcases h.2 with hn | ⟨g, cap, cur, rfl, hb, hgg, rest⟩
  · exact .inl hn
  · refine .inr ⟨g, cap, cur, rfl, hb, ?_, rest⟩
    rw [hw.block g (Array.getElem?_eq_some_iff.1 hgg).1 (hx g rfl)]
    exact hgg
theorem InR.out {v : Value} {lo hi lo' hi' : Nat} (h : InR v lo hi) (hx : hi ≤ lo' ∨ hi' ≤ lo) : ∀ k, v.ownBlock = some k → k < lo' ∨ hi' ≤ k := fun k hk => by
  have := h k hk
  omega
end Go.Lb
