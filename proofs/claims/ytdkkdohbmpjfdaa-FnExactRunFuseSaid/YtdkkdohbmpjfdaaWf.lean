/-
  The law FnExactRunFuse, walked.
-/
import Derived.Test.YtdkkdohbmpjfdaaWe
import Derived.Test.YtdkkdohbmpjfdaaSl
namespace Go.Proofs.Ytdkkdohbmpjfdaa
open Go.RowKit Go.Fl Go.Lb

set_option maxHeartbeats 2000000 in
theorem fnExactRunFuse_walk (h l c t : Nat) (A : Option Addr) (cp : Nat) (xs : List Nat) (w : World) (HX : RdF w A xs) :
    Calls Try.prog 6 #[fuseV h l c, .slice A xs.length cp, .float .f32 t] w fun e w' => e = .returned (.bool true) ∧ Below w.heap.size w w' := by
  have hm := HX.1
  by_cases hl : xs.length ≤ 1048576
  · have hg : ¬ (1048576 < (xs.length : Int)) := by omega
    obtain ⟨⟨R1, R2, R3, R4, R5⟩, hR⟩ : ∃ R, runAll h l c t xs = R := ⟨_, rfl⟩
    have HR := Lib.hid hR
    clear hR
    go_enter Try.func6, Try.ntmps6
    go_wp2_with fail
    (refine (toFuse_any _ _ _ _).mono ?_; rintro e w1 ⟨rfl, hb1⟩; have hz1 := hb1.size; (try simp at hz1); obtain ⟨hc1_0, hf1_0, hx1_0⟩ := bcell0 hb1 w.heap.size (by first | assumption | omega | (simp; done) | (simp; omega)))
    have HX1 := (HX.below (below_alloc (Below.refl _ _) (.cells #[.float .f32 h, .float .f32 l, .float .f32 c] 24))).below hb1
    go_wp2_with fail
    (refine (toFloat32S_any _ _ _ _ HX1 hl).mono ?_; rintro e w2 ⟨g2, rfl, G2, hg2, hb2⟩; have HX2 := HX1.below hb2; have D2 := G2.rdF hm; have hz2 := hb2.size; (try simp at hz2); obtain ⟨hc2_0, hf2_0, hx2_0⟩ := bcell0 hb2 w.heap.size (by first | assumption | omega | (simp; done) | (simp; omega)))
    go_wp2_with fail
    (refine (runFuseS_any _ _ _ _ _ _ _ _ D2).mono ?_; rintro e w3 ⟨rfl, hb3⟩; rw [HR.out]; dsimp only [runV]; have HX3 := HX2.below hb3; have hz3 := hb3.size; (try simp at hz3); obtain ⟨hc3_0, hf3_0, hx3_0⟩ := bcell0 hb3 w.heap.size (by first | assumption | omega | (simp; done) | (simp; omega)))
    go_wp2_with fail
    have HX3' := HX3.below (below_alloc (Below.refl _ _) (.cells #[.float .f32 R2, .float .f32 R3, .float .f32 R4] 26))
    (refine (toFloat32S_any _ _ _ _ HX3' hl).mono ?_; rintro e w4 ⟨g4, rfl, G4, hg4, hb4⟩; have HX4 := HX3'.below hb4; have hz4 := hb4.size; (try simp at hz4); obtain ⟨hc4_0, hf4_0, hx4_0⟩ := bcell0 hb4 w.heap.size (by first | assumption | omega | (simp; done) | (simp; omega)); obtain ⟨hc4_1, hf4_1, hx4_1⟩ := bcell0 hb4 w3.heap.size (by first | assumption | omega | (simp; done) | (simp; omega)))
    go_wp2_with fail
    (refine (toFuse_any _ _ _ _).mono ?_; rintro e w5 ⟨rfl, hb5⟩; have HX5 := HX4.below hb5; have G5 := G4.below hb5; have D5 := G5.rdF hm; have hz5 := hb5.size; (try simp at hz5); obtain ⟨hc5_0, hf5_0, hx5_0⟩ := bcell0 hb5 w.heap.size (by first | assumption | omega | (simp; done) | (simp; omega)); obtain ⟨hc5_1, hf5_1, hx5_1⟩ := bcell0 hb5 w3.heap.size (by first | assumption | omega | (simp; done) | (simp; omega)))
    go_wp2_with fail
    (refine (runFuseI_any _ _ _ _ _ _ _ _ D5).mono ?_; rintro e w6 ⟨rfl, hb6⟩; rw [HR.out]; dsimp only [runV]; have HX6 := HX5.below hb6; have G6 := G5.below hb6; have hz6 := hb6.size; (try simp at hz6); obtain ⟨hc6_0, hf6_0, hx6_0⟩ := bcell0 hb6 w.heap.size (by first | assumption | omega | (simp; done) | (simp; omega)); obtain ⟨hc6_1, hf6_1, hx6_1⟩ := bcell0 hb6 w3.heap.size (by first | assumption | omega | (simp; done) | (simp; omega)))
    go_wp2_with fail
    (refine (eqFuse_any _ _ _ _ _ _ _ rfl rfl rfl).mono ?_; rintro e w7 ⟨rfl, hb7⟩; have hz7 := hb7.size; (try simp at hz7); obtain ⟨hc7_0, hf7_0, hx7_0⟩ := bcell0 hb7 w.heap.size (by first | assumption | omega | (simp; done) | (simp; omega)); obtain ⟨hc7_1, hf7_1, hx7_1⟩ := bcell0 hb7 w3.heap.size (by first | assumption | omega | (simp; done) | (simp; omega)); obtain ⟨hc7_2, hf7_2, hx7_2⟩ := bcell0 hb7 w6.heap.size (by first | assumption | omega | (simp; done) | (simp; omega)))
    have HX7 := (HX6.below (below_alloc (Below.refl _ _) (.cells #[.float .f32 R2, .float .f32 R3, .float .f32 R4] 26))).below hb7
    have G7 := (G6.below (below_alloc (Below.refl _ _) (.cells #[.float .f32 R2, .float .f32 R3, .float .f32 R4] 26))).below hb7
    go_wp2_with fail
    (refine (toFloat32S_any _ _ _ _ HX7 hl).mono ?_; rintro e w8 ⟨g8, rfl, G8, hg8, hb8⟩; have G8' := G7.below hb8; have D8 := G8.rdF hm; have D8' := G8'.rdF hm; have hz8 := hb8.size; (try simp at hz8); obtain ⟨hc8_0, hf8_0, hx8_0⟩ := bcell0 hb8 w.heap.size (by first | assumption | omega | (simp; done) | (simp; omega)))
    go_wp2_with fail
    refine (eqFloat32S_any _ _ _ _ _ _ _ D8' D8 (SameL.refl _)).mono ?_
    rintro e w' ⟨rfl, n, rfl⟩
    go_wp2_with fail
    go_ret
    exact ⟨rfl, (by repeat' (first | (with_reducible exact Below.refl _ _) | (with_reducible assumption) | (with_reducible refine below_drewN ?_ _) | (with_reducible refine Below.drew ?_) | (with_reducible refine below_alloc ?_ _) | (with_reducible refine Below.setCell ?_ ?_ _) | (with_reducible refine below_then ?_ (by assumption)) | omega | (simp; done) | (simp; omega)))⟩
  · have hg : 1048576 < (xs.length : Int) := by omega
    go_enter Try.func6, Try.ntmps6
    go_wp2_with fail
    go_ret
    exact ⟨rfl, (by repeat' (first | (with_reducible exact Below.refl _ _) | (with_reducible assumption) | (with_reducible refine below_drewN ?_ _) | (with_reducible refine Below.drew ?_) | (with_reducible refine below_alloc ?_ _) | (with_reducible refine Below.setCell ?_ ?_ _) | (with_reducible refine below_then ?_ (by assumption)) | omega | (simp; done) | (simp; omega)))⟩
end Go.Proofs.Ytdkkdohbmpjfdaa
