/-
  Lists of int64s of a call's own; the law's marks: markInt64S, heldInt64S.
-/
import Derived.Test.YtiikjnokoihhgaaIs
import Derived.Laws.AppendOwn
namespace Go.Proofs.Ytiikjnokoihhgaa
open Go.RowKit Go.Fl Go.Lb

section
variable {w w' : World} {B : Nat} {v : Value} {xs : List Int}
/-- v is a list of int64s in a block of its own, from block B on -/
def OwnI (w : World) (B : Nat) (v : Value) (xs : List Int) : Prop := w.ownsRow B 2 1 v xs.length (xs.map iv)
theorem OwnI.shape (h : OwnI w B v xs) : (v = .slice none 0 0 ∧ xs = []) ∨ ∃ g cap ys, v = .slice (some ⟨g, 0, none⟩) xs.length cap ∧ B ≤ g ∧ Blk w g 2 (xs.map iv ++ ys) ∧ xs.length ≤ cap ∧ cap ≤ maxLen ∧ xs.length + ys.length = cap := by
  obtain ⟨_, h⟩ := h
  rcases h with ⟨rfl, h⟩ | ⟨g, cap, cur, rfl, hB, hg, hn, hm, hs, ht⟩
  · exact .inl ⟨rfl, List.eq_nil_of_length_eq_zero h⟩
  · refine .inr ⟨g, cap, cur.toList.drop (xs.length * 1), rfl, hB, ?_, hn, hm, ?_⟩
    · unfold Blk
      rw [hg, ← ht, List.take_append_drop]
    · simp
      omega
theorem OwnI.of {g cap : Nat} {ys : List Value} (hB : B ≤ g) (hb : Blk w g 2 (xs.map iv ++ ys)) (hn : xs.length ≤ cap) (hm : cap ≤ maxLen) (hs : xs.length + ys.length = cap) : OwnI w B (.slice (some ⟨g, 0, none⟩) xs.length cap) xs :=
  ⟨by simp, .inr ⟨g, cap, _, rfl, hB, hb, hn, hm, by simp; omega, by simp⟩⟩
theorem OwnI.nil (w : World) (B : Nat) : OwnI w B (.slice none 0 0) [] := World.ownsRow_nil _ _ _ _
theorem Blk.rdI' {g : Nat} {ys : List Value} (h : Blk w g 2 (xs.map iv ++ ys)) (hl : xs.length ≤ 9223372036854775807) : RdI w (some ⟨g, 0, none⟩) xs :=
  ⟨hl, fun _ => ⟨_, rfl, fun j hj => by rw [addr_add, h.cell j, List.getElem?_append_left (by simpa using hj)]; simp [gi_eq hj, List.getElem?_eq_getElem hj, iv]⟩⟩
theorem OwnI.rdI (h : OwnI w B v xs) : ∃ A c, v = .slice A xs.length c ∧ RdI w A xs := by
  rcases h.shape with ⟨rfl, rfl⟩ | ⟨g, cap, ys, rfl, _, hb, h1, h2, _⟩
  · exact ⟨none, 0, rfl, by simp, fun h => absurd h (by simp)⟩
  · exact ⟨_, cap, rfl, Blk.rdI' hb (by unfold maxLen at h2; omega)⟩
theorem OwnI.below (h : OwnI w B v xs) (hb : Below w.heap.size w w') : OwnI w' B v xs := by
  rcases h.shape with ⟨rfl, rfl⟩ | ⟨g, cap, ys, rfl, hB, hk, h1, h2, h3⟩
  · exact OwnI.nil _ _
  · exact OwnI.of hB (hk.below hb) h1 h2 h3
theorem OwnI.length (h : OwnI w B v xs) : xs.length ≤ 9223372036854775807 := by
  rcases h.shape with ⟨rfl, rfl⟩ | ⟨g, cap, ys, rfl, hB, hk, h1, h2, h3⟩
  · simp
  · unfold maxLen at h2; omega
end

/-- the number that the marks give an element -/
def mk (a j : Nat) : Int := ((a + j : Nat) : Int)
def marks (a n : Nat) : List Int := (List.range n).map (mk a)
def mix (a k : Nat) (xs : List Int) : List Int := (List.range xs.length).map fun j => if j < k then mk a j else gi xs j
theorem mix_zero (a : Nat) (xs : List Int) : mix a 0 xs = xs := by
  apply List.ext_getElem
  · simp [mix]
  · intro i h1 h2
    simp [mix, gi_eq h2]
theorem mix_full (a : Nat) (xs : List Int) : mix a xs.length xs = marks a xs.length := by
  apply List.ext_getElem
  · simp [mix, marks]
  · intro i h1 h2
    have : i < xs.length := by simpa [mix] using h1
    simp [mix, marks, this]
theorem mix_length (a k : Nat) (xs : List Int) : (mix a k xs).length = xs.length := by simp [mix]
theorem marks_length (a n : Nat) : (marks a n).length = n := by simp [marks]
theorem mix_set (a k : Nat) (xs : List Int) (ys : List Value) (hk : k < xs.length) : ((mix a k xs).map iv ++ ys).set k (iv (mk a k)) = (mix a (k + 1) xs).map iv ++ ys := by
  rw [List.set_append_left _ _ (by simp [mix_length, hk])]
  congr 1
  apply List.ext_getElem
  · simp [mix]
  · intro i h1 h2
    have hi : i < xs.length := by simpa [mix] using h2
    rw [List.getElem_set]
    by_cases h : k = i
    · subst h
      simp [mix]
    · have : (i < k + 1) ↔ i < k := by omega
      simp [mix, h, this]
theorem mix_at (a k : Nat) (xs : List Int) (ys : List Value) {j : Nat} (hj : j < xs.length) : ∃ z, ((mix a k xs).map iv ++ ys)[j]? = some (iv z) := by
  rw [List.getElem?_append_left (by simp [mix_length, hj])]
  exact ⟨_, by rw [List.getElem?_map, List.getElem?_eq_getElem (by simp [mix_length, hj])]; rfl⟩
theorem ge_marks {a n j : Nat} (hj : j < n) : gi (marks a n) j = mk a j := by
  rw [gi_eq (by simpa [marks_length] using hj)]
  simp [marks]
theorem grown_refl (w : World) (row : Option Nat) : w.grownBy w row := ⟨rfl, rfl, rfl, Nat.le_refl _, fun _ _ _ => rfl⟩
theorem grown_set {w wr : World} {g : Nat} (h : w.grownBy wr (some g)) (j : Nat) (v : Value) : w.grownBy (wr.setCell ⟨g, j, none⟩ v) (some g) :=
  ⟨h.os, h.tape, h.output, by simpa using h.size, fun k hk hne => by
    have hkg : k ≠ g := fun e => hne (by rw [e])
    rw [Below.heap_setCell _ _ _ _ (by simpa using hkg)]
    exact h.block k hk hne⟩
set_option maxHeartbeats 1000000 in
theorem markInt64S_any (g cap a : Nat) (xs : List Int) (ys : List Value) (w : World) (HB : Blk w g 2 (xs.map iv ++ ys)) (hl : xs.length ≤ 1048576) (ha : a ≤ 3145728) :
    Calls Try.prog 21 #[.slice (some ⟨g, 0, none⟩) xs.length cap, .int .i64 a] w fun e w' => e = .returned (.int .i64 ((a + xs.length : Nat) : Int)) ∧ Blk w' g 2 ((marks a xs.length).map iv ++ ys) ∧ w.grownBy w' (some g) := by
  go_enter Try.func21, Try.ntmps21
  go_wp2_with fail
  go_loopw [1, 5] (fun mv i wr => ∃ k z : Nat, k ≤ xs.length ∧ z = a + k ∧ mv = .int .i64 z ∧ i = .int .i64 k ∧ Blk wr g 2 ((mix a k xs).map iv ++ ys) ∧ w.grownBy wr (some g)) (fun _ i _ => xs.length - (intOf i).toNat)
  case atStart => exact ⟨0, a, Nat.zero_le _, rfl, rfl, rfl, by rw [mix_zero]; exact HB, grown_refl _ _⟩
  case round =>
    obtain ⟨k, z, hk, hz, rfl, rfl, HR, HG⟩ := hrel
    by_cases hlt : k < xs.length
    · obtain ⟨y, hy⟩ := mix_at a k xs ys hlt
      have d0 : wr.cell? ⟨g, k, none⟩ = some (.int .i64 y) := by rw [HR.cell]; exact hy
      have z0 := HR.frozen k
      have HS := HR.set k (iv (mk a k))
      rw [mix_set a k xs ys hlt] at HS
      have hmk : mk a k = (z : Int) := by rw [hz]; rfl
      rw [hmk] at HS
      have HGS := grown_set HG k (iv (z : Int))
      have HZ := Lib.hid hz
      have hz2 : z ≤ 4194304 := by omega
      clear hz hy hmk
      go_wp2_with fail
      go_roundw
      case rel => exact ⟨k + 1, z + 1, by omega, by rw [HZ.out]; omega, by go_num, by go_num, HS, HGS⟩
      case measure => simp [intOf]; omega
    · obtain rfl : k = xs.length := by omega
      rw [mix_full] at HR
      go_wp2_with fail
      go_ret
      exact ⟨ret_int (by rw [hz]), HR, HG⟩
set_option maxHeartbeats 1000000 in
theorem heldInt64S_any (g cap a n : Nat) (ys : List Value) (w : World) (HB : Blk w g 2 ((marks a n).map iv ++ ys)) (hl : n ≤ 1048576) (ha : a ≤ 3145728) :
    Calls Try.prog 22 #[.slice (some ⟨g, 0, none⟩) n cap, .int .i64 a] w fun e w' => e = .returned (.int .i64 ((a + n : Nat) : Int)) ∧ w' = w := by
  go_enter Try.func22, Try.ntmps22
  go_wp2_with fail
  go_loopw [1, 5] (fun mv i wr => ∃ k z : Nat, k ≤ n ∧ z = a + k ∧ mv = .int .i64 z ∧ i = .int .i64 k ∧ wr = w) (fun _ i _ => n - (intOf i).toNat)
  case atStart => exact ⟨0, a, Nat.zero_le _, rfl, rfl, rfl, rfl⟩
  case round =>
    obtain ⟨k, z, hk, hz, rfl, rfl, rfl⟩ := hrel
    by_cases hlt : k < n
    · have d0 : wr.cell? ⟨g, k, none⟩ = some (.int .i64 (z : Int)) := by
        rw [HB.cell, List.getElem?_append_left (by simp [marks_length, hlt]), hz]
        simp [marks, hlt, mk, iv]
      have HZ := Lib.hid hz
      have hz2 : z ≤ 4194304 := by omega
      clear hz
      go_wp2_with fail
      go_roundw
      case rel => exact ⟨k + 1, z + 1, by omega, by rw [HZ.out]; omega, by go_num, by go_num, by trivial⟩
      case measure => simp [intOf]; omega
    · obtain rfl : k = n := by omega
      go_wp2_with fail
      go_ret
      exact ⟨ret_int (by rw [hz]), rfl⟩
set_option maxHeartbeats 400000 in
theorem markNil_any (a : Nat) (w : World) : Calls Try.prog 21 #[.slice none 0 0, .int .i64 a] w fun e w' => e = .returned (.int .i64 a) ∧ w' = w := by
  go_enter Try.func21, Try.ntmps21
  go_wp2_with fail
  go_loopw [1, 5] (fun mv i wr => mv = .int .i64 a ∧ i = .int .i64 0 ∧ wr = w) (fun _ _ _ => 0)
  case atStart => exact ⟨rfl, rfl, rfl⟩
  case round =>
    obtain ⟨rfl, rfl, rfl⟩ := hrel
    go_wp2_with fail
    go_ret
    exact ⟨rfl, rfl⟩
set_option maxHeartbeats 400000 in
theorem heldNil_any (a : Nat) (w : World) : Calls Try.prog 22 #[.slice none 0 0, .int .i64 a] w fun e w' => e = .returned (.int .i64 a) ∧ w' = w := by
  go_enter Try.func22, Try.ntmps22
  go_wp2_with fail
  go_loopw [1, 5] (fun mv i wr => mv = .int .i64 a ∧ i = .int .i64 0 ∧ wr = w) (fun _ _ _ => 0)
  case atStart => exact ⟨rfl, rfl, rfl⟩
  case round =>
    obtain ⟨rfl, rfl, rfl⟩ := hrel
    go_wp2_with fail
    go_ret
    exact ⟨rfl, rfl⟩
end Go.Proofs.Ytiikjnokoihhgaa
