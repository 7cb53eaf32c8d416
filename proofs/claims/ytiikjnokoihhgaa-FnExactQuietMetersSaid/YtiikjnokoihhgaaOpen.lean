/-
  Arguments that are lists, opened to what the walks read.
-/
import Derived.Test.YtiikjnokoihhgaaLb
import Derived.Test.YtiikjnokoihhgaaLift
import Derived.Deep.Slices
import Derived.Deep.Fields
namespace Go.Lb
open Go.RowKit Go.WideShapes Go.ChangeShapes Go.ChangeAt Go.WideElems Go.Deep Go.Fl
section
variable {H : Type} {enc : TypeId × Value → H} {P : Program} {w : World} {base : Nat} {spare : Nat → Bool} {held : Bool}
/-- a float32's cell, read, with its bound -/
theorem trod_float_wf {fuel : Nat} {t : TypeId} {v : Value} {y : DataW H × List MemPlace} (ht : P.underlying t = some (.float .f32)) (h : DataW.trod enc P w base spare held fuel t [v] = some y) : ∃ b, v = .float .f32 b ∧ b < 4294967296 := by
  cases fuel with
  | zero => simp [DataW.trod] at h
  | succ n =>
    simp only [DataW.trod, ht] at h
    cases v <;> simp_all [Lit.wf]
/-- a cell that holds a list of float32s, each below 2^32 -/
theorem cell_floatsW {t e : TypeId} {fuel : Nat} {v : Value} {x : DataW H × List MemPlace} (ht : P.underlying t = some (.slice e)) (hc : P.cellsOf e = 1) (he : P.underlying e = some (.float .f32))
    (h : DataW.trod enc P w base spare held fuel t [v] = some x) : ∃ A c xs, v = .slice A xs.length c ∧ RdF w A xs ∧ ∀ j, j < xs.length → ge xs j < 4294967296 := by
  rcases open_slice1 ht hc h with ⟨hv, _⟩ | ⟨a, len, cap, m, n, V, D, Pl, hv, hb, hl, hm, hmm, _, hx⟩
  · injection hv with hv _
    exact ⟨none, 0, [], hv, ⟨by simp, fun h => absurd h (by simp)⟩, fun _ h => absurd h (by simp)⟩
  · injection hv with hv _
    have hlm : len ≤ m := by rw [hmm]; split <;> omega
    have hV : ∀ i, i < len → ∃ b, V i = .float .f32 b ∧ b < 4294967296 := fun i hi => trod_float_wf he (hx i (by omega)).2
    obtain ⟨B, hB⟩ := choose_lt (α := Nat) (p := fun i b => V i = .float .f32 b ∧ b < 4294967296) hV
    have hg : ∀ j, j < len → ge ((List.range len).map B) j = B j := fun j hj => by rw [ge_eq (by simpa using hj)]; simp
    refine ⟨some a, cap, (List.range len).map B, by simpa using hv, ⟨?_, fun _ => ⟨a, rfl, fun j hj => ?_⟩⟩, fun j hj => ?_⟩
    · unfold maxLen at hm; simp; omega
    · have hj' : j < len := by simpa using hj
      show _ = some (Value.float .f32 (ge ((List.range len).map B) j))
      rw [(hx j (by omega)).1, (hB j hj').1, hg j hj']
    · have hj' : j < len := by simpa using hj
      rw [hg j hj']
      exact (hB j hj').2
/-- a cell that holds a list of float32s -/
theorem cell_floats {t e : TypeId} {fuel : Nat} {v : Value} {x : DataW H × List MemPlace} (ht : P.underlying t = some (.slice e)) (hc : P.cellsOf e = 1) (he : P.underlying e = some (.float .f32))
    (h : DataW.trod enc P w base spare held fuel t [v] = some x) : ∃ A c xs, v = .slice A xs.length c ∧ RdF w A xs := by
  rcases open_slice1 ht hc h with ⟨hv, _⟩ | ⟨a, len, cap, m, n, V, D, Pl, hv, hb, hl, hm, hmm, _, hx⟩
  · injection hv with hv _
    exact ⟨none, 0, [], hv, by simp, fun h => absurd h (by simp)⟩
  · injection hv with hv _
    have hlm : len ≤ m := by rw [hmm]; split <;> omega
    have hV : ∀ i, i < len → ∃ b, V i = .float .f32 b := fun i hi => trod_float he (hx i (by omega)).2
    obtain ⟨B, hB⟩ := choose_lt (α := Nat) (p := fun i b => V i = .float .f32 b) hV
    refine ⟨some a, cap, (List.range len).map B, by simpa using hv, ?_, fun _ => ⟨a, rfl, fun j hj => ?_⟩⟩
    · unfold maxLen at hm; simp; omega
    · have hj' : j < len := by simpa using hj
      have hg : ge ((List.range len).map B) j = B j := by rw [ge_eq hj]; simp
      show _ = some (Value.float .f32 (ge ((List.range len).map B) j))
      rw [(hx j (by omega)).1, hB j hj', hg]
/-- an argument that is a list of float32s -/
theorem open_floats {t e : TypeId} {r : Reach} {b0 : Nat} {v : Value} {d : DataW H} {ps : List MemPlace} (ht : P.underlying t = some (.slice e)) (hc : P.cellsOf e = 1) (he : P.underlying e = some (.float .f32))
    (hval : Value.okWide P w r b0 t v) (h : DataW.Trod enc P w base spare held t v d ps) : ∃ A c xs, v = .slice A xs.length c ∧ RdF w A xs := by
  obtain ⟨a0, len, cap, rfl⟩ := okWide_slice ht hval
  obtain ⟨fuel, hf⟩ := h
  exact cell_floats ht hc he (by simpa [Value.cells] using hf)
/-- a struct by value, each of whose fields is one cell: its cells, each read at its field's type -/
theorem open_cells {r : Reach} {b0 : Nat} {t : TypeId} {fs : Array Field} {v : Value} {d : DataW H} {p : List MemPlace} (hs : P.underlying t = some (.struct fs)) (hone : oneCellFields P fs = true) (hC : P.cellsOf t = fs.size)
    (hv : Value.okWide P w r b0 t v) (h : DataW.Trod enc P w base spare held t v d p) :
    ∃ (cs : Array Value) (n : Nat), v = .agg cs ∧ cs.size = fs.size ∧ ∀ (i : Nat) (c : Value) (f : Field), cs[i]? = some c → fs[i]? = some f → ∃ y, DataW.trod enc P w base spare held n f.type [c] = some y := by
  obtain ⟨cs, rfl, hsz⟩ := okWide_struct hs hv
  obtain ⟨fuel, hf⟩ := h
  obtain ⟨xs, n, _, _, _, hlen, hall⟩ := DataW.trod_struct hs hf
  refine ⟨cs, n, rfl, hsz.trans hC, fun i c f hc hf => ?_⟩
  obtain ⟨ho, hk⟩ := hone_of hone i f hf
  have hi : i < fs.size := (Array.getElem?_eq_some_iff.1 hf).1
  have h1 := hall i f hf
  have hc' : cs.toList[i]? = some c := by simpa using hc
  have h2 : (cs.toList.drop i).take 1 = [c] := by
    obtain ⟨hl, rfl⟩ := List.getElem?_eq_some_iff.1 hc'
    rw [List.drop_eq_getElem_cons hl]
    rfl
  rw [ho, hk] at h1
  have h3 : (Value.agg cs).cells.toList = cs.toList := by simp [Value.cells]
  rw [h3, h2, List.getElem?_eq_getElem (by omega)] at h1
  exact ⟨_, h1⟩
theorem cells_five {cs : Array Value} (h : cs.size = 5) : ∃ a b c d e, cs = #[a, b, c, d, e] := by
  obtain ⟨l⟩ := cs
  have h' : l.length = 5 := h
  obtain ⟨a, l, rfl⟩ := List.exists_cons_of_length_eq_add_one (n := 4) h'
  obtain ⟨b, l, rfl⟩ := List.exists_cons_of_length_eq_add_one (n := 3) (by simpa using h')
  obtain ⟨c, l, rfl⟩ := List.exists_cons_of_length_eq_add_one (n := 2) (by simpa using h')
  obtain ⟨d, l, rfl⟩ := List.exists_cons_of_length_eq_add_one (n := 1) (by simpa using h')
  obtain ⟨e, l, rfl⟩ := List.exists_cons_of_length_eq_add_one (n := 0) (by simpa using h')
  obtain rfl : l = [] := List.eq_nil_of_length_eq_zero (by simpa using h')
  exact ⟨a, b, c, d, e, rfl⟩
theorem cell_int {k : IntKind} {t : TypeId} {fuel : Nat} {v : Value} {y : DataW H × List MemPlace} (ht : P.underlying t = some (.int k)) (h : DataW.trod enc P w base spare held fuel t [v] = some y) : ∃ n, v = .int k n ∧ (Lit.int k n).wf = true := by
  obtain ⟨n, h1, _, h2⟩ := DataW.trod_int ht h
  injection h1 with h1
  exact ⟨n, h1, h2⟩
theorem trodAll_five {t0 t1 t2 t3 t4 : TypeId} {args : Array Value} {ds : List (DataW H)} {ps : List MemPlace} (h : DataW.TrodAll enc P w base spare held [t0, t1, t2, t3, t4] args.toList ds ps) :
    ∃ v0 v1 v2 v3 v4 d0 d1 d2 d3 d4 p0 p1 p2 p3 p4, args = #[v0, v1, v2, v3, v4] ∧ ds = [d0, d1, d2, d3, d4] ∧ ps = p0 ++ p1 ++ p2 ++ p3 ++ p4 ∧ DataW.Trod enc P w base spare held t0 v0 d0 p0 ∧ DataW.Trod enc P w base spare held t1 v1 d1 p1 ∧ DataW.Trod enc P w base spare held t2 v2 d2 p2 ∧
      DataW.Trod enc P w base spare held t3 v3 d3 p3 ∧ DataW.Trod enc P w base spare held t4 v4 d4 p4 := by
  obtain ⟨v0, l0, d0, e0, p0, q0, hargs, rfl, rfl, h0, k0⟩ := trodAll_cons h
  obtain ⟨v1, l1, d1, e1, p1, q1, rfl, rfl, rfl, h1, k1⟩ := trodAll_cons k0
  obtain ⟨v2, l2, d2, e2, p2, q2, rfl, rfl, rfl, h2, k2⟩ := trodAll_cons k1
  obtain ⟨v3, l3, d3, e3, p3, q3, rfl, rfl, rfl, h3, k3⟩ := trodAll_cons k2
  obtain ⟨v4, l4, d4, e4, p4, q4, rfl, rfl, rfl, h4, k4⟩ := trodAll_cons k3
  obtain ⟨rfl, rfl, rfl⟩ := trodAll_nil k4
  exact ⟨v0, v1, v2, v3, v4, d0, d1, d2, d3, d4, p0, p1, p2, p3, p4, by cases args; simp_all, rfl, by simp, h0, h1, h2, h3, h4⟩
end
end Go.Lb
