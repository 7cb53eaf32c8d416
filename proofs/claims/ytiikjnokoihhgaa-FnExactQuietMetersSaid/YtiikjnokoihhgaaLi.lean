/-
  Rows of int64s that are read.
-/
import Derived.Test.YtiikjnokoihhgaaLb
namespace Go.Lb
open Go.RowKit Go.Fl

abbrev iv (x : Int) : Value := .int .i64 x
/-- the element at a place, closed to simp -/
def gi (xs : List Int) (k : Nat) : Int := xs.getD k 0
theorem gi_eq {xs : List Int} {k : Nat} (h : k < xs.length) : gi xs k = xs[k] := by simp [gi, List.getElem?_eq_getElem h]
def RdI (w : World) (A : Option Addr) (xs : List Int) : Prop := xs.length ≤ 9223372036854775807 ∧ Rd w A xs.length fun j => .int .i64 (gi xs j)
theorem RdI.at_ {w : World} {A : Option Addr} {xs : List Int} (h : RdI w A xs) {i : Nat} (hi : i < xs.length) : ∃ ad, A = some ad ∧ w.cell? (ad.add i) = some (.int .i64 (gi xs i)) := by
  obtain ⟨ad, e, hc⟩ := h.2 (by omega)
  exact ⟨ad, e, hc i hi⟩
theorem RdI.below {w w1 : World} {A : Option Addr} {xs : List Int} (h : RdI w A xs) (hb : Below w.heap.size w w1) : RdI w1 A xs := ⟨h.1, h.2.below hb⟩
theorem Blk.rdI {w : World} {g : Nat} {T : TypeId} {xs : List Int} (h : Blk w g T (xs.map iv)) (hl : xs.length ≤ 9223372036854775807) : RdI w (some ⟨g, 0, none⟩) xs :=
  ⟨hl, fun _ => ⟨_, rfl, fun j hj => by rw [addr_add, h.cell j]; simp [gi_eq hj, List.getElem?_eq_getElem hj, iv]⟩⟩
end Go.Lb
