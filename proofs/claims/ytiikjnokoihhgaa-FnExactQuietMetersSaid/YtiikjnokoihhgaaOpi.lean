/-
  Arguments that are lists of int64s, opened.
-/
import Derived.Test.YtiikjnokoihhgaaLi
import Derived.Test.YtiikjnokoihhgaaOpen
namespace Go.Lb
open Go.RowKit Go.WideShapes Go.ChangeShapes Go.ChangeAt Go.WideElems Go.Deep Go.Fl
section
variable {H : Type} {enc : TypeId × Value → H} {P : Program} {w : World} {base : Nat} {spare : Nat → Bool} {held : Bool}
/-- a cell that holds a list of int64s, each within its bounds -/
theorem cell_ints {t e : TypeId} {fuel : Nat} {v : Value} {x : DataW H × List MemPlace} (ht : P.underlying t = some (.slice e)) (hc : P.cellsOf e = 1) (he : P.underlying e = some (.int .i64))
    (h : DataW.trod enc P w base spare held fuel t [v] = some x) : ∃ A c xs, v = .slice A xs.length c ∧ RdI w A xs ∧ ∀ j, j < xs.length → (Lit.int .i64 (gi xs j)).wf = true := by
  rcases open_slice1 ht hc h with ⟨hv, _⟩ | ⟨a, len, cap, m, n, V, D, Pl, hv, hb, hl, hm, hmm, _, hx⟩
  · injection hv with hv _
    exact ⟨none, 0, [], hv, ⟨by simp, fun h => absurd h (by simp)⟩, fun _ h => absurd h (by simp)⟩
  · injection hv with hv _
    have hlm : len ≤ m := by rw [hmm]; split <;> omega
    have hV : ∀ i, i < len → ∃ b, V i = .int .i64 b ∧ (Lit.int .i64 b).wf = true := fun i hi => cell_int he (hx i (by omega)).2
    obtain ⟨B, hB⟩ := choose_lt (α := Int) (p := fun i b => V i = .int .i64 b ∧ (Lit.int .i64 b).wf = true) hV
    have hg : ∀ j, j < len → gi ((List.range len).map B) j = B j := fun j hj => by rw [gi_eq (by simpa using hj)]; simp
    refine ⟨some a, cap, (List.range len).map B, by simpa using hv, ⟨?_, fun _ => ⟨a, rfl, fun j hj => ?_⟩⟩, fun j hj => ?_⟩
    · unfold maxLen at hm; simp; omega
    · have hj' : j < len := by simpa using hj
      show _ = some (Value.int .i64 (gi ((List.range len).map B) j))
      rw [(hx j (by omega)).1, (hB j hj').1, hg j hj']
    · have hj' : j < len := by simpa using hj
      rw [hg j hj']
      exact (hB j hj').2
/-- an argument that is a list of int64s -/
theorem open_intsW {t e : TypeId} {r : Reach} {b0 : Nat} {v : Value} {d : DataW H} {ps : List MemPlace} (ht : P.underlying t = some (.slice e)) (hc : P.cellsOf e = 1) (he : P.underlying e = some (.int .i64))
    (hval : Value.okWide P w r b0 t v) (h : DataW.Trod enc P w base spare held t v d ps) : ∃ A c xs, v = .slice A xs.length c ∧ RdI w A xs ∧ ∀ j, j < xs.length → (Lit.int .i64 (gi xs j)).wf = true := by
  obtain ⟨a0, len, cap, rfl⟩ := okWide_slice ht hval
  obtain ⟨fuel, hf⟩ := h
  exact cell_ints ht hc he (by simpa [Value.cells] using hf)
end
end Go.Lb
