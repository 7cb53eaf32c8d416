/-
  Lists of int64s of a call's own: kept, compared, marked, held; the marks of a meter.
-/
import Derived.Test.YtiikjnokoihhgaaOi
import Derived.Test.YtiikjnokoihhgaaMx
namespace Go.Proofs.Ytiikjnokoihhgaa
open Go.RowKit Go.Fl Go.Lb

theorem OwnI.mono {w : World} {B B' : Nat} {v : Value} {xs : List Int} (h : OwnI w B v xs) (hB : B' ≤ B) : OwnI w B' v xs := by
  rcases h.shape with ⟨rfl, rfl⟩ | ⟨g, cap, ys, rfl, hg, hk, h1, h2, h3⟩
  · exact OwnI.nil _ _
  · exact OwnI.of (Nat.le_trans hB hg) hk h1 h2 h3
/-- a list in a block that the writer did not write -/
theorem OwnI.grown {w w' : World} {B : Nat} {v : Value} {xs : List Int} {row : Option Nat} (h : OwnI w B v xs) (hg : w.grownBy w' row) (hne : v.ownBlock = none ∨ v.ownBlock ≠ row) : OwnI w' B v xs :=
  World.ownsRow.kept h hg hne
theorem OwnI.lt {w : World} {B : Nat} {v : Value} {xs : List Int} (h : OwnI w B v xs) : ∀ k, v.ownBlock = some k → B ≤ k ∧ k < w.heap.size := World.ownsRow.lt h
theorem Blk.grown {w w' : World} {g : Nat} {T : TypeId} {cs : List Value} {row : Option Nat} (h : Blk w g T cs) (hg : w.grownBy w' row) (hne : some g ≠ row) : Blk w' g T cs :=
  (hg.block g h.lt hne).trans h
theorem grown_trans {a b c : World} {row : Option Nat} (h : a.grownBy b row) (k : b.grownBy c row) : a.grownBy c row :=
  ⟨k.os.trans h.os, k.tape.trans h.tape, k.output.trans h.output, Nat.le_trans h.size k.size, fun i hi hne => (k.block i (Nat.lt_of_lt_of_le hi h.size) hne).trans (h.block i hi hne)⟩
theorem eqOwnI_any {w : World} {B B' : Nat} {v v' : Value} {xs : List Int} (h : OwnI w B v xs) (h' : OwnI w B' v' xs) :
    Calls Try.prog 19 #[v, v'] w fun e w' => e = .returned (.bool true) ∧ ∃ n, w' = w.drewN n := by
  obtain ⟨A, c, rfl, HX⟩ := h.rdI
  obtain ⟨A', c', rfl, HY⟩ := h'.rdI
  exact eqInt64S_any A A' c c' xs w HX HY
theorem markOwnI_any {w : World} {B : Nat} {v : Value} {xs : List Int} (a : Nat) (h : OwnI w B v xs) (hl : xs.length ≤ 1048576) (ha : a ≤ 3145728) :
    Calls Try.prog 21 #[v, .int .i64 a] w fun e w' => e = .returned (.int .i64 ((a + xs.length : Nat) : Int)) ∧ OwnI w' B v (marks a xs.length) ∧ w.grownBy w' v.ownBlock := by
  rcases h.shape with ⟨rfl, rfl⟩ | ⟨g, cap, ys, rfl, hg, hk, h1, h2, h3⟩
  · refine (markNil_any a w).mono ?_
    rintro e w' ⟨rfl, rfl⟩
    exact ⟨rfl, OwnI.nil _ _, grown_refl _ _⟩
  · refine (markInt64S_any g cap a xs ys w hk hl ha).mono ?_
    rintro e w' ⟨rfl, hk', hg'⟩
    refine ⟨rfl, ?_, hg'⟩
    have := OwnI.of (cap := cap) (B := B) hg hk' (by rw [marks_length]; exact h1) h2 (by rw [marks_length]; exact h3)
    rwa [marks_length] at this
theorem heldOwnI_any {w : World} {B : Nat} {v : Value} (a n : Nat) (h : OwnI w B v (marks a n)) (hl : n ≤ 1048576) (ha : a ≤ 3145728) :
    Calls Try.prog 22 #[v, .int .i64 a] w fun e w' => e = .returned (.int .i64 ((a + n : Nat) : Int)) ∧ w' = w := by
  rcases h.shape with ⟨rfl, hn⟩ | ⟨g, cap, ys, rfl, hg, hk, h1, h2, h3⟩
  · have hn' := congrArg List.length hn
    rw [marks_length] at hn'
    obtain rfl : n = 0 := hn'
    exact heldNil_any a w
  · rw [marks_length]
    exact heldInt64S_any g cap a n ys w hk hl ha
set_option maxHeartbeats 400000 in
theorem markMeter_any (g a : Nat) (z : Int) (xs : List Int) (w : World) (HB : Blk w g 2 (xs.map iv)) (hl : xs.length ≤ 1048576) (ha : a ≤ 3145728) :
    Calls Try.prog 20 #[meterV z (some ⟨g, 0, none⟩) xs.length xs.length, .int .i64 a] w fun e w' => e = .returned (.int .i64 ((a + xs.length : Nat) : Int)) ∧ w.grownBy w' (some g) := by
  go_enter Try.func20, Try.ntmps20
  go_wp2_with fail
  refine (markInt64S_any g _ a xs [] _ (by simpa using Blk.alloc HB _) hl ha).mono ?_
  rintro e w1 ⟨rfl, HB1, HG⟩
  have HG' := grown_trans (World.grownBy_alloc _ _ _) HG
  obtain ⟨y, hy⟩ : ∃ y, a + xs.length = y := ⟨_, rfl⟩
  rw [hy]
  have HY := Lib.hid hy
  clear hy HB1 HG
  go_wp2_with fail
  go_ret
  exact ⟨ret_int (by rw [HY.out]), HG'⟩
end Go.Proofs.Ytiikjnokoihhgaa
