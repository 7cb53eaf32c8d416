/-
  Bands: the plain part.
-/
import Derived.Test.YtiikjnokoihhgaaUl
import Derived.Test.YtiikjnokoihhgaaWi
namespace Go.Proofs.Ytiikjnokoihhgaa
open Go.RowKit Go.Fl Go.Lb

def ascB (ls : List Int) : Bool := (List.range ls.length).all fun j => decide (j = 0) || decide (gi ls (j - 1) < gi ls j)
theorem ascB_no {ls : List Int} {k : Nat} (hk : k < ls.length) (h1 : 1 ≤ k) (h : ¬ gi ls (k - 1) < gi ls k) : ascB ls = false := by
  unfold ascB
  rw [List.all_eq_false]
  refine ⟨k, by simpa using hk, ?_⟩
  simp [h]
  omega
theorem ascB_yes {ls : List Int} (h : ∀ j, 1 ≤ j → j < ls.length → gi ls (j - 1) < gi ls j) : ascB ls = true := by
  unfold ascB
  simp only [List.all_eq_true, List.mem_range, Bool.or_eq_true, decide_eq_true_eq]
  intro j hj
  rcases Nat.eq_zero_or_pos j with h0 | h0
  · exact .inl h0
  · exact .inr (h j h0 hj)
/-- the band of a number -/
def bandK (ls : List Int) (u : Int) : Nat := ls.findIdx fun l => decide (u < l)
theorem bandK_at {ls : List Int} {u : Int} {k : Nat} (hk : k < ls.length) (hno : ∀ j, j < k → gi ls j ≤ u) (hy : ¬ gi ls k ≤ u) : bandK ls u = k := by
  unfold bandK
  rw [List.findIdx_eq hk]
  refine ⟨?_, fun j hj => ?_⟩
  · rw [gi_eq hk] at hy; simp; omega
  · have := hno j hj
    rw [gi_eq (Nat.lt_trans hj hk)] at this
    simp; omega
theorem bandK_end {ls : List Int} {u : Int} (hno : ∀ j, j < ls.length → gi ls j ≤ u) : bandK ls u = ls.length := by
  unfold bandK
  rw [List.findIdx_eq_length]
  intro x hx
  obtain ⟨j, hj, rfl⟩ := List.mem_iff_getElem.1 hx
  have := hno j hj
  rw [gi_eq hj] at this
  simp; omega
theorem bandK_le (ls : List Int) (u : Int) : bandK ls u ≤ ls.length := List.findIdx_le_length
def bump (cs : List Int) (k : Nat) : List Int := cs.set k (gi cs k + 1)
def bandsAt (ls us : List Int) (k : Nat) : List Int := (us.take k).foldl (fun cs u => bump cs (bandK ls u)) (List.replicate (ls.length + 1) 0)
def bands (ls us : List Int) : List Int := bandsAt ls us us.length
theorem bandsAt_zero (ls us : List Int) : bandsAt ls us 0 = List.replicate (ls.length + 1) 0 := rfl
theorem bandsAt_step {ls us : List Int} {k : Nat} (hk : k < us.length) : bandsAt ls us (k + 1) = bump (bandsAt ls us k) (bandK ls (gi us k)) := by
  unfold bandsAt
  rw [List.take_succ_eq_append_getElem hk, List.foldl_append, gi_eq hk]
  rfl
theorem bandsAt_length (ls us : List Int) : ∀ k, k ≤ us.length → (bandsAt ls us k).length = ls.length + 1 := by
  intro k
  induction k with
  | zero => intro _; simp [bandsAt]
  | succ k ih =>
    intro hk
    rw [bandsAt_step (by omega)]
    simpa [bump] using ih (by omega)
theorem bandsAt_bound (ls us : List Int) : ∀ k, k ≤ us.length → ∀ j, 0 ≤ gi (bandsAt ls us k) j ∧ gi (bandsAt ls us k) j ≤ k := by
  intro k
  induction k with
  | zero =>
    intro _ j
    rw [bandsAt_zero]
    unfold gi
    rw [List.getD_eq_getElem?_getD, List.getElem?_replicate]
    split <;> simp
  | succ k ih =>
    intro hk j
    rw [bandsAt_step (by omega)]
    have h1 := ih (by omega) j
    have h2 := ih (by omega) (bandK ls (gi us k))
    generalize bandK ls (gi us k) = b at *
    unfold bump
    unfold gi at *
    rw [List.getD_eq_getElem?_getD] at *
    rw [List.getElem?_set]
    split
    · split
      · simp; omega
      · simp; omega
    · omega
theorem bump_map (cs : List Int) (k : Nat) : (cs.map iv).set k (iv (gi cs k + 1)) = (bump cs k).map iv := by
  unfold bump
  rw [List.map_set]
def bandOk (z : Int) (xs ls : List Int) : Bool := validM z xs && (decide (ls.length ≤ 256) && ascB ls)
def bandsR (z : Int) (xs ls : List Int) : List Int := if bandOk z xs ls then bands ls (uses z.toNat xs) else []
theorem bandOk_a {z : Int} {xs ls : List Int} (h : validM z xs = false) : bandOk z xs ls = false := by unfold bandOk; rw [h]; rfl
theorem bandOk_b {z : Int} {xs ls : List Int} (h : 256 < ls.length) : bandOk z xs ls = false := by unfold bandOk; rw [decide_eq_false (by omega)]; simp
theorem bandOk_c {z : Int} {xs ls : List Int} (h : ascB ls = false) : bandOk z xs ls = false := by unfold bandOk; rw [h]; simp
theorem bandOk_yes {z : Int} {xs ls : List Int} (h : validM z xs = true) (hn : ls.length ≤ 256) (ha : ascB ls = true) : bandOk z xs ls = true := by unfold bandOk; rw [h, ha, decide_eq_true hn]; rfl
theorem bandsR_no {z : Int} {xs ls : List Int} (h : bandOk z xs ls = false) : bandsR z xs ls = [] := by unfold bandsR; rw [h]; rfl
theorem bandsR_yes {d : Nat} {xs ls : List Int} (h : bandOk d xs ls = true) : bandsR d xs ls = bands ls (uses d xs) := by unfold bandsR; rw [h]; rfl
theorem bandsR_length (z : Int) (xs ls : List Int) : (bandsR z xs ls).length ≤ 257 := by
  cases h : bandOk z xs ls with
  | false => rw [bandsR_no h]; simp
  | true =>
    have h' := h
    unfold bandOk at h
    simp only [Bool.and_eq_true, decide_eq_true_eq] at h
    unfold bandsR
    rw [h', if_pos rfl]
    unfold bands
    rw [bandsAt_length _ _ _ (Nat.le_refl _)]
    omega
def BandRes (w : World) (z : Int) (xs ls : List Int) (e : Ending) (w' : World) : Prop := ∃ v, e = .returned (.tuple #[v, .bool (bandOk z xs ls)]) ∧ OwnI w' w.heap.size v (bandsR z xs ls) ∧ Below w.heap.size w w'
theorem bandRes_no {w w' : World} {z : Int} {xs ls : List Int} (h : bandOk z xs ls = false) (hb : Below w.heap.size w w') : BandRes w z xs ls (.returned (.tuple #[.slice none 0 0, .bool false])) w' :=
  ⟨_, by rw [h], by rw [bandsR_no h]; exact OwnI.nil _ _, hb⟩
theorem OwnI.rd {w : World} {B : Nat} {A : Option Addr} {c : Nat} {xs : List Int} (h : OwnI w B (.slice A xs.length c) xs) : RdI w A xs := by
  obtain ⟨A', c', he, hr⟩ := h.rdI
  cases he
  exact hr
end Go.Proofs.Ytiikjnokoihhgaa
