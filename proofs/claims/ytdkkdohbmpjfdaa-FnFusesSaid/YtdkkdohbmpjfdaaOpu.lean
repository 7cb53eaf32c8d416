/-
  Arguments that are lists of bytes, opened.
-/
import Derived.Test.YtdkkdohbmpjfdaaFw
import Derived.Test.YtdkkdohbmpjfdaaOpen
namespace Go.Proofs.Ytdkkdohbmpjfdaa
open Go.RowKit Go.WideShapes Go.ChangeShapes Go.ChangeAt Go.WideElems Go.Deep Go.Fl Go.Lb
section
variable {H : Type} {enc : TypeId × Value → H} {P : Program} {w : World} {base : Nat} {spare : Nat → Bool} {held : Bool}
theorem wf_u8 {b : Int} (h : (Lit.int .u8 b).wf = true) : 0 ≤ b ∧ b < 256 := by
  unfold Lit.wf at h
  simp only [Bool.and_eq_true, decide_eq_true_eq] at h
  have h1 : IntKind.min .u8 = 0 := by decide
  have h2 : IntKind.max .u8 = 255 := by decide
  rw [h1, h2] at h
  omega
/-- an argument that is a list of bytes -/
theorem open_bytesW {t e : TypeId} {r : Reach} {b0 : Nat} {v : Value} {d : DataW H} {ps : List MemPlace} (ht : P.underlying t = some (.slice e)) (hc : P.cellsOf e = 1) (he : P.underlying e = some (.int .u8))
    (hval : Value.okWide P w r b0 t v) (h : DataW.Trod enc P w base spare held t v d ps) : ∃ A c xs, v = .slice A xs.length c ∧ RdU w A xs := by
  obtain ⟨a0, len0, cap0, rfl⟩ := okWide_slice ht hval
  obtain ⟨fuel, hf⟩ := h
  have hf' : DataW.trod enc P w base spare held fuel t [.slice a0 len0 cap0] = some (d, ps) := by simpa [Value.cells] using hf
  rcases open_slice1 ht hc hf' with ⟨hv, _⟩ | ⟨a, len, cap, m, n, V, D, Pl, hv, hb, hl, hm, hmm, _, hx⟩
  · injection hv with hv _
    exact ⟨none, 0, [], hv, ⟨⟨by simp, fun h => absurd h (by simp)⟩, fun _ h => absurd h (by simp)⟩⟩
  · injection hv with hv _
    have hlm : len ≤ m := by rw [hmm]; split <;> omega
    have hV : ∀ i, i < len → ∃ b, V i = .int .u8 b ∧ (Lit.int .u8 b).wf = true := fun i hi => cell_int he (hx i (by omega)).2
    obtain ⟨B, hB⟩ := choose_lt (α := Int) (p := fun i b => V i = .int .u8 b ∧ (Lit.int .u8 b).wf = true) hV
    have hg : ∀ j, j < len → gu ((List.range len).map B) j = B j := fun j hj => by rw [gu_eq (by simpa using hj)]; simp
    refine ⟨some a, cap, (List.range len).map B, by simpa using hv, ⟨⟨?_, fun _ => ⟨a, rfl, fun j hj => ?_⟩⟩, fun j hj => ?_⟩⟩
    · unfold maxLen at hm; simp; omega
    · have hj' : j < len := by simpa using hj
      show _ = some (Value.int .u8 (gu ((List.range len).map B) j))
      rw [(hx j (by omega)).1, (hB j hj').1, hg j hj']
    · have hj' : j < len := by simpa using hj
      rw [hg j hj']
      exact wf_u8 (hB j hj').2
end
end Go.Proofs.Ytdkkdohbmpjfdaa
