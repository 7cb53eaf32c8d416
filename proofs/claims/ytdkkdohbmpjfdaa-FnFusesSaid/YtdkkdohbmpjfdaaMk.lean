/-
  Lists of float32s of a call's own; the law's marks: markFloat32S, heldFloat32S.
-/
import Derived.Test.YtdkkdohbmpjfdaaSl
import Derived.Laws.AppendOwn
import Derived.Laws.Cover2
namespace Go.Proofs.Ytdkkdohbmpjfdaa
open Go.RowKit Go.Fl Go.Lb

section
variable {w w' : World} {B : Nat} {v : Value} {xs : List Nat}
/-- v is a list of float32s in a block of its own, from block B on -/
def OwnF (w : World) (B : Nat) (v : Value) (xs : List Nat) : Prop := w.ownsRow B 22 1 v xs.length (xs.map fv32)
theorem OwnF.shape (h : OwnF w B v xs) : (v = .slice none 0 0 ∧ xs = []) ∨ ∃ g cap ys, v = .slice (some ⟨g, 0, none⟩) xs.length cap ∧ B ≤ g ∧ Blk w g 22 (xs.map fv32 ++ ys) ∧ xs.length ≤ cap ∧ cap ≤ maxLen ∧ xs.length + ys.length = cap := by
  obtain ⟨_, h⟩ := h
  rcases h with ⟨rfl, h⟩ | ⟨g, cap, cur, rfl, hB, hg, hn, hm, hs, ht⟩
  · exact .inl ⟨rfl, List.eq_nil_of_length_eq_zero h⟩
  · refine .inr ⟨g, cap, cur.toList.drop (xs.length * 1), rfl, hB, ?_, hn, hm, ?_⟩
    · unfold Blk
      rw [hg, ← ht, List.take_append_drop]
    · simp
      omega
theorem OwnF.of {g cap : Nat} {ys : List Value} (hB : B ≤ g) (hb : Blk w g 22 (xs.map fv32 ++ ys)) (hn : xs.length ≤ cap) (hm : cap ≤ maxLen) (hs : xs.length + ys.length = cap) : OwnF w B (.slice (some ⟨g, 0, none⟩) xs.length cap) xs :=
  ⟨by simp, .inr ⟨g, cap, _, rfl, hB, hb, hn, hm, by simp; omega, by simp⟩⟩
theorem OwnF.nil (w : World) (B : Nat) : OwnF w B (.slice none 0 0) [] := World.ownsRow_nil _ _ _ _
theorem Blk.rdF' {g : Nat} {ys : List Value} (h : Blk w g 22 (xs.map fv32 ++ ys)) (hl : xs.length ≤ 9223372036854775807) : RdF w (some ⟨g, 0, none⟩) xs :=
  ⟨hl, fun _ => ⟨_, rfl, fun j hj => by rw [addr_add, h.cell j, List.getElem?_append_left (by simpa using hj)]; simp [ge_eq hj, List.getElem?_eq_getElem hj, fv32]⟩⟩
theorem OwnF.rdF (h : OwnF w B v xs) : ∃ A c, v = .slice A xs.length c ∧ RdF w A xs := by
  rcases h.shape with ⟨rfl, rfl⟩ | ⟨g, cap, ys, rfl, _, hb, h1, h2, _⟩
  · exact ⟨none, 0, rfl, by simp, fun h => absurd h (by simp)⟩
  · exact ⟨_, cap, rfl, Blk.rdF' hb (by unfold maxLen at h2; omega)⟩
theorem OwnF.below (h : OwnF w B v xs) (hb : Below w.heap.size w w') : OwnF w' B v xs := by
  rcases h.shape with ⟨rfl, rfl⟩ | ⟨g, cap, ys, rfl, hB, hk, h1, h2, h3⟩
  · exact OwnF.nil _ _
  · exact OwnF.of hB (hk.below hb) h1 h2 h3
theorem OwnF.length (h : OwnF w B v xs) : xs.length ≤ 9223372036854775807 := by
  rcases h.shape with ⟨rfl, rfl⟩ | ⟨g, cap, ys, rfl, hB, hk, h1, h2, h3⟩
  · simp
  · unfold maxLen at h2; omega
end

/-- the number that the marks give an element -/
def mk (a j : Nat) : Nat := floatOfInt .f32 ((a + j : Nat) : Int)
def marks (a n : Nat) : List Nat := (List.range n).map (mk a)
def mix (a k : Nat) (xs : List Nat) : List Nat := (List.range xs.length).map fun j => if j < k then mk a j else ge xs j
theorem mix_zero (a : Nat) (xs : List Nat) : mix a 0 xs = xs := by
  apply List.ext_getElem
  · simp [mix]
  · intro i h1 h2
    simp [mix, ge_eq h2]
theorem mix_full (a : Nat) (xs : List Nat) : mix a xs.length xs = marks a xs.length := by
  apply List.ext_getElem
  · simp [mix, marks]
  · intro i h1 h2
    have : i < xs.length := by simpa [mix] using h1
    simp [mix, marks, this]
theorem mix_length (a k : Nat) (xs : List Nat) : (mix a k xs).length = xs.length := by simp [mix]
theorem marks_length (a n : Nat) : (marks a n).length = n := by simp [marks]
theorem mix_set (a k : Nat) (xs : List Nat) (ys : List Value) (hk : k < xs.length) : ((mix a k xs).map fv32 ++ ys).set k (fv32 (mk a k)) = (mix a (k + 1) xs).map fv32 ++ ys := by
  rw [List.set_append_left _ _ (by simp [mix_length, hk])]
  congr 1
  apply List.ext_getElem
  · simp [mix]
  · intro i h1 h2
    have hi : i < xs.length := by simpa [mix] using h2
    rw [List.getElem_set]
    by_cases h : k = i
    · subst h
      simp [mix]
    · have : (i < k + 1) ↔ i < k := by omega
      simp [mix, h, this]
theorem mix_at (a k : Nat) (xs : List Nat) (ys : List Value) {j : Nat} (hj : j < xs.length) : ∃ z, ((mix a k xs).map fv32 ++ ys)[j]? = some (fv32 z) := by
  rw [List.getElem?_append_left (by simp [mix_length, hj])]
  exact ⟨_, by rw [List.getElem?_map, List.getElem?_eq_getElem (by simp [mix_length, hj])]; rfl⟩
theorem ge_marks {a n j : Nat} (hj : j < n) : ge (marks a n) j = mk a j := by
  rw [ge_eq (by simpa [marks_length] using hj)]
  simp [marks]
theorem grown_refl (w : World) (row : Option Nat) : w.grownBy w row := ⟨rfl, rfl, rfl, Nat.le_refl _, fun _ _ _ => rfl⟩
theorem grown_set {w wr : World} {g : Nat} (h : w.grownBy wr (some g)) (j : Nat) (v : Value) : w.grownBy (wr.setCell ⟨g, j, none⟩ v) (some g) :=
  ⟨h.os, h.tape, h.output, by simpa using h.size, fun k hk hne => by
    have hkg : k ≠ g := fun e => hne (by rw [e])
    rw [Below.heap_setCell _ _ _ _ (by simpa using hkg)]
    exact h.block k hk hne⟩
/-- the marks are numbers -/
def okMarks : Bool := (List.range 64).all fun k => !isN .f32 (floatOfInt .f32 (k : Int))
theorem okMarks_eq : okMarks = true := by decide +kernel
theorem mk_num {a j : Nat} (h : a + j < 64) : isN .f32 (mk a j) = false := by
  have := okMarks_eq
  unfold okMarks at this
  rw [List.all_eq_true] at this
  have := this (a + j) (by simpa using h)
  simpa [mk] using this

set_option maxHeartbeats 1000000 in
theorem markFloat32S_any (g cap a : Nat) (xs : List Nat) (ys : List Value) (w : World) (HB : Blk w g 22 (xs.map fv32 ++ ys)) (hl : xs.length ≤ 1048576) (ha : a ≤ 2097152) :
    Calls Try.prog 29 #[.slice (some ⟨g, 0, none⟩) xs.length cap, .int .i64 a] w fun e w' => e = .returned (.int .i64 ((a + xs.length : Nat) : Int)) ∧ Blk w' g 22 ((marks a xs.length).map fv32 ++ ys) ∧ w.grownBy w' (some g) := by
  go_enter Try.func29, Try.ntmps29
  go_wp2_with fail
  go_loopw [1, 5] (fun mv i wr => ∃ k z : Nat, k ≤ xs.length ∧ z = a + k ∧ mv = .int .i64 z ∧ i = .int .i64 k ∧ Blk wr g 22 ((mix a k xs).map fv32 ++ ys) ∧ w.grownBy wr (some g)) (fun _ i _ => xs.length - (intOf i).toNat)
  case atStart => exact ⟨0, a, Nat.zero_le _, rfl, rfl, rfl, by rw [mix_zero]; exact HB, grown_refl _ _⟩
  case round =>
    obtain ⟨k, z, hk, hz, rfl, rfl, HR, HG⟩ := hrel
    by_cases hlt : k < xs.length
    · obtain ⟨y, hy⟩ := mix_at a k xs ys hlt
      have d0 : wr.cell? ⟨g, k, none⟩ = some (.float .f32 y) := by rw [HR.cell]; exact hy
      have z0 := HR.frozen k
      have HS := HR.set k (fv32 (mk a k))
      rw [mix_set a k xs ys hlt] at HS
      have hmk : mk a k = floatOfInt .f32 (z : Int) := by rw [hz]; rfl
      rw [hmk] at HS
      have HGS := grown_set HG k (fv32 (floatOfInt .f32 (z : Int)))
      have HZ := Lib.hid hz
      have hz2 : z ≤ 4194304 := by omega
      clear hz hy hmk
      go_wp2_with fail
      go_roundw
      case rel => exact ⟨k + 1, z + 1, by omega, by rw [HZ.out]; omega, by go_num, by go_num, HS, HGS⟩
      case measure => simp [intOf]; omega
    · obtain rfl : k = xs.length := by omega
      rw [mix_full] at HR
      go_wp2_with fail
      go_ret
      exact ⟨ret_int (by rw [hz]), HR, HG⟩
set_option maxHeartbeats 1000000 in
theorem heldFloat32S_any (g cap a n : Nat) (ys : List Value) (w : World) (HB : Blk w g 22 ((marks a n).map fv32 ++ ys)) (hl : n ≤ 30) (ha : a ≤ 30) :
    Calls Try.prog 30 #[.slice (some ⟨g, 0, none⟩) n cap, .int .i64 a] w fun e w' => e = .returned (.int .i64 ((a + n : Nat) : Int)) ∧ w' = w := by
  go_enter Try.func30, Try.ntmps30
  go_wp2_with fail
  go_loopw [1, 5] (fun mv i wr => ∃ k z : Nat, k ≤ n ∧ z = a + k ∧ mv = .int .i64 z ∧ i = .int .i64 k ∧ wr = w) (fun _ i _ => n - (intOf i).toNat)
  case atStart => exact ⟨0, a, Nat.zero_le _, rfl, rfl, rfl, rfl⟩
  case round =>
    obtain ⟨k, z, hk, hz, rfl, rfl, rfl⟩ := hrel
    by_cases hlt : k < n
    · have d0 : wr.cell? ⟨g, k, none⟩ = some (.float .f32 (floatOfInt .f32 (z : Int))) := by
        rw [HB.cell, List.getElem?_append_left (by simp [marks_length, hlt]), hz]
        simp [marks, hlt, mk, fv32]
      have hc : cf .f32 (floatOfInt .f32 (z : Int)) (floatOfInt .f32 (z : Int)) = some .eq := by
        rw [cf_eq, hz]
        exact order_self .f32 (mk_num (a := a) (j := k) (by omega))
      have HZ := Lib.hid hz
      have hz2 : z ≤ 64 := by omega
      clear hz
      go_wp2_with fail
      go_roundw
      case rel => exact ⟨k + 1, z + 1, by omega, by rw [HZ.out]; omega, by go_num, by go_num, by trivial⟩
      case measure => simp [intOf]; omega
    · obtain rfl : k = n := by omega
      go_wp2_with fail
      go_ret
      exact ⟨ret_int (by rw [hz]), rfl⟩
set_option maxHeartbeats 400000 in
theorem markNil_any (a : Nat) (w : World) : Calls Try.prog 29 #[.slice none 0 0, .int .i64 a] w fun e w' => e = .returned (.int .i64 a) ∧ w' = w := by
  go_enter Try.func29, Try.ntmps29
  go_wp2_with fail
  go_loopw [1, 5] (fun mv i wr => mv = .int .i64 a ∧ i = .int .i64 0 ∧ wr = w) (fun _ _ _ => 0)
  case atStart => exact ⟨rfl, rfl, rfl⟩
  case round =>
    obtain ⟨rfl, rfl, rfl⟩ := hrel
    go_wp2_with fail
    go_ret
    exact ⟨rfl, rfl⟩
set_option maxHeartbeats 400000 in
theorem heldNil_any (a : Nat) (w : World) : Calls Try.prog 30 #[.slice none 0 0, .int .i64 a] w fun e w' => e = .returned (.int .i64 a) ∧ w' = w := by
  go_enter Try.func30, Try.ntmps30
  go_wp2_with fail
  go_loopw [1, 5] (fun mv i wr => mv = .int .i64 a ∧ i = .int .i64 0 ∧ wr = w) (fun _ _ _ => 0)
  case atStart => exact ⟨rfl, rfl, rfl⟩
  case round =>
    obtain ⟨rfl, rfl, rfl⟩ := hrel
    go_wp2_with fail
    go_ret
    exact ⟨rfl, rfl⟩
end Go.Proofs.Ytdkkdohbmpjfdaa
