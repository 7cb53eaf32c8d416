/-
  MetersBalance: the plain part; an argument that is a list of meters, opened.
-/
import Derived.Test.YtiikjnokoihhgaaLo
import Derived.Test.YtiikjnokoihhgaaUl
import Derived.Test.YtiikjnokoihhgaaOpi
import Derived.Deep.SlicePairs
namespace Go.Lb
open Go.RowKit Go.WideShapes Go.ChangeShapes Go.ChangeAt Go.WideElems Go.Deep Go.Fl Go.Proofs.Ytiikjnokoihhgaa
section
variable {H : Type} {enc : TypeId × Value → H} {P : Program} {w : World} {base : Nat} {spare : Nat → Bool} {held : Bool}
theorem add_one_spell (ad : Addr) (k : Nat) : ad.add (k * 2 + 1) = ⟨(ad.add (k * 2)).block, (ad.add (k * 2)).off + 1, none⟩ := by
  unfold Addr.add
  by_cases h : k * 2 = 0
  · rw [if_neg (by omega), if_pos h, h]
  · rw [if_neg (by omega), if_neg h]
    rfl
/-- an argument that is a list of meters -/
theorem open_metersW {t e tz tr : TypeId} {f0 f1 : Field} {r : Reach} {b0 : Nat} {v : Value} {d : DataW H} {ps : List MemPlace} (ht : P.underlying t = some (.slice e)) (he : P.underlying e = some (.struct #[f0, f1]))
    (ce : P.cellsOf e = 2) (o0 : f0.offset = 0) (o1 : f1.offset = 1) (c0 : P.cellsOf f0.type = 1) (c1 : P.cellsOf f1.type = 1) (hz : f0.type = tz) (hr : f1.type = tr)
    (hz' : P.underlying tz = some (.int .i64)) (hr' : P.underlying tr = some (.slice tz)) (hcz : P.cellsOf tz = 1)
    (hval : Value.okWide P w r b0 t v) (h : DataW.Trod enc P w base spare held t v d ps) : ∃ A c ms, v = .slice A ms.length c ∧ RdM w A ms := by
  obtain ⟨a0, len0, cap0, rfl⟩ := okWide_slice ht hval
  obtain ⟨fuel, hf⟩ := h
  have hf' : DataW.trod enc P w base spare held fuel t [.slice a0 len0 cap0] = some (d, ps) := by simpa [Value.cells] using hf
  rcases open_slice_pairs ht he ce o0 o1 c0 c1 hf' with ⟨hv, _⟩ | ⟨a, len, cap, m, n, V0, V1, D0, D1, P0, P1, hv, hb, hl, hm, hmm, _, hx⟩
  · injection hv with hv _
    exact ⟨none, 0, [], hv, by simp, fun k hk => absurd hk (by simp)⟩
  · injection hv with hv _
    have hlm : len ≤ m := by rw [hmm]; split <;> omega
    have hV : ∀ i, i < len → ∃ q : Int × List Int × Option Addr × Nat, V0 i = .int .i64 q.1 ∧ V1 i = .slice q.2.2.1 q.2.1.length q.2.2.2 ∧ RdI w q.2.2.1 q.2.1 := fun i hi => by
      obtain ⟨h1, h2, h3, h4⟩ := hx i (by omega)
      rw [hz] at h3
      rw [hr] at h4
      obtain ⟨z, e1, _⟩ := cell_int hz' h3
      obtain ⟨A, c, xs, e2, e3, _⟩ := cell_ints hr' hcz hz' h4
      exact ⟨(z, xs, A, c), e1, e2, e3⟩
    obtain ⟨q, hq⟩ := choose_lt hV
    have hg : ∀ j, j < len → gm ((List.range len).map fun i => ((q i).1, (q i).2.1)) j = ((q j).1, (q j).2.1) := fun j hj => by rw [gm_eq (by simpa using hj)]; simp
    refine ⟨some a, cap, (List.range len).map fun i => ((q i).1, (q i).2.1), by simpa using hv, ?_, fun k hk => ?_⟩
    · unfold maxLen at hm; simp; omega
    · have hk' : k < len := by simpa using hk
      obtain ⟨h1, h2, _, _⟩ := hx k (by omega)
      obtain ⟨e1, e2, e3⟩ := hq k hk'
      refine ⟨a, (q k).2.2.1, (q k).2.2.2, rfl, ?_, ?_, ?_⟩
      · rw [hg k hk', h1, e1]
      · rw [hg k hk', ← add_one_spell, h2, e2]
      · rw [hg k hk']; exact e3
end
end Go.Lb
namespace Go.Proofs.Ytiikjnokoihhgaa
open Go.RowKit Go.Fl Go.Lb
/-- what is left when the uses of one meter are taken off, up to the first j -/
def takeOff (os us : List Int) (j : Nat) : List Int := (List.range os.length).map fun i => if i < j then gi os i - gi us i else gi os i
theorem takeOff_zero (os us : List Int) : takeOff os us 0 = os := by
  apply List.ext_getElem
  · simp [takeOff]
  · intro i h1 h2
    simp [takeOff, gi_eq h2]
theorem takeOff_length (os us : List Int) (j : Nat) : (takeOff os us j).length = os.length := by simp [takeOff]
theorem takeOff_at {os us : List Int} {j i : Nat} (h : i < os.length) : gi (takeOff os us j) i = if i < j then gi os i - gi us i else gi os i := by
  rw [gi_eq (by rw [takeOff_length]; exact h)]
  simp [takeOff]
theorem takeOff_step (os us : List Int) (j : Nat) : (takeOff os us j).set j (gi os j - gi us j) = takeOff os us (j + 1) := by
  apply List.ext_getElem
  · simp [takeOff]
  · intro i h1 h2
    have hi : i < os.length := by simpa [takeOff] using h2
    rw [List.getElem_set]
    by_cases h : j = i
    · subst h
      simp [takeOff]
    · have : (i < j + 1) ↔ i < j := by omega
      simp [takeOff, h, this]
/-- each number lies within b -/
def within (b : Int) (os : List Int) : Prop := ∀ i, i < os.length → -b ≤ gi os i ∧ gi os i ≤ b
theorem within_off {b : Int} {os us : List Int} (h : within b os) (hu : small us) (hl : os.length ≤ us.length) (j : Nat) : within (b + 1000000000) (takeOff os us j) := by
  intro i hi
  rw [takeOff_length] at hi
  rw [takeOff_at hi]
  have h1 := h i hi
  have h2 := hu i (by omega)
  split <;> omega
/-- a meter fits a head with n readings -/
def fitM (n : Nat) (m : Mt) : Bool := validM m.1 m.2 && decide (m.2.length = n)
def balAt (os : List Int) (ms : List Mt) (k : Nat) : List Int := (ms.take k).foldl (fun acc m => takeOff acc (uses m.1.toNat m.2) acc.length) os
theorem balAt_step {os : List Int} {ms : List Mt} {k : Nat} (h : k < ms.length) : balAt os ms (k + 1) = takeOff (balAt os ms k) (uses (gm ms k).1.toNat (gm ms k).2) (balAt os ms k).length := by
  unfold balAt
  rw [List.take_succ_eq_append_getElem h, List.foldl_append, gm_eq h]
  rfl
theorem balAt_length (os : List Int) (ms : List Mt) : ∀ k, k ≤ ms.length → (balAt os ms k).length = os.length := by
  intro k
  induction k with
  | zero => intro _; rfl
  | succ k ih => intro hk; rw [balAt_step (by omega), takeOff_length]; exact ih (by omega)
def balOk (z : Int) (xs : List Int) (ms : List Mt) : Bool := validM z xs && (decide (ms.length ≤ 256) && (List.range ms.length).all fun k => fitM xs.length (gm ms k))
def balR (z : Int) (xs : List Int) (ms : List Mt) : List Int := if balOk z xs ms then balAt (uses z.toNat xs) ms ms.length else []
theorem balOk_a {z : Int} {xs : List Int} {ms : List Mt} (h : validM z xs = false) : balOk z xs ms = false := by unfold balOk; rw [h]; rfl
theorem balOk_b {z : Int} {xs : List Int} {ms : List Mt} (h : 256 < ms.length) : balOk z xs ms = false := by unfold balOk; rw [decide_eq_false (by omega)]; simp
theorem balOk_c {z : Int} {xs : List Int} {ms : List Mt} {k : Nat} (hk : k < ms.length) (h : fitM xs.length (gm ms k) = false) : balOk z xs ms = false := by
  unfold balOk
  have : ((List.range ms.length).all fun k => fitM xs.length (gm ms k)) = false := by
    rw [List.all_eq_false]
    exact ⟨k, by simpa using hk, by simpa using h⟩
  rw [this]; simp
theorem balOk_yes {z : Int} {xs : List Int} {ms : List Mt} (h : validM z xs = true) (hn : ms.length ≤ 256) (ha : ∀ k, k < ms.length → fitM xs.length (gm ms k) = true) : balOk z xs ms = true := by
  unfold balOk
  rw [h, decide_eq_true hn]
  simp only [Bool.true_and, List.all_eq_true, List.mem_range]
  exact ha
theorem balR_no {z : Int} {xs : List Int} {ms : List Mt} (h : balOk z xs ms = false) : balR z xs ms = [] := by unfold balR; rw [h]; rfl
theorem balR_yes {d : Nat} {xs : List Int} {ms : List Mt} (h : balOk d xs ms = true) : balR d xs ms = balAt (uses d xs) ms ms.length := by unfold balR; rw [h]; rfl
theorem balR_length (z : Int) (xs : List Int) (ms : List Mt) : (balR z xs ms).length ≤ 256 := by
  cases h : balOk z xs ms with
  | false => rw [balR_no h]; simp
  | true =>
    have h' := h
    unfold balOk at h
    simp only [Bool.and_eq_true] at h
    obtain ⟨d, rfl, _, _, hn, _⟩ := validM_yes h.1
    rw [balR_yes h', balAt_length _ _ _ (Nat.le_refl _), uses_length]
    omega
theorem fitM_yes {n : Nat} {m : Mt} (h : fitM n m = true) : validM m.1 m.2 = true ∧ m.2.length = n := by
  unfold fitM at h
  simpa using h
theorem fitM_a {n : Nat} {m : Mt} (h : validM m.1 m.2 = false) : fitM n m = false := by unfold fitM; rw [h]; rfl
theorem fitM_b {n : Nat} {m : Mt} (h : ¬ m.2.length = n) : fitM n m = false := by unfold fitM; rw [decide_eq_false h]; simp
def BalRes (w : World) (z : Int) (xs : List Int) (ms : List Mt) (e : Ending) (w' : World) : Prop := ∃ v, e = .returned (.tuple #[v, .bool (balOk z xs ms)]) ∧ OwnI w' w.heap.size v (balR z xs ms) ∧ Below w.heap.size w w'
theorem balRes_no {w w' : World} {z : Int} {xs : List Int} {ms : List Mt} (h : balOk z xs ms = false) (hb : Below w.heap.size w w') : BalRes w z xs ms (.returned (.tuple #[.slice none 0 0, .bool false])) w' :=
  ⟨_, by rw [h], by rw [balR_no h]; exact OwnI.nil _ _, hb⟩
end Go.Proofs.Ytiikjnokoihhgaa
