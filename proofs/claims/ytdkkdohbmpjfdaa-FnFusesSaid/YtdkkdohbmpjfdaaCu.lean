/-
  The law's own helpers over curves: sizes, a copy, that two are the same.
-/
import Derived.Test.YtdkkdohbmpjfdaaSl
namespace Go.Proofs.Ytdkkdohbmpjfdaa
open Go.RowKit Go.Fl Go.Lb

/-- what is left of a size -/
def szL (left n : Int) : Int := if left - n < 0 then -1 else left - n
theorem szL_no {left n : Int} (h : left - n < 0) : szL left n = -1 := if_pos h
theorem szL_yes {left n : Int} (h : ¬ left - n < 0) : szL left n = left - n := if_neg h
set_option maxHeartbeats 400000 in
theorem szFloat32S_any (A : Option Addr) (c n : Nat) (left : Int) (w : World) (hn : n ≤ 9223372036854775807) (h0 : 0 ≤ left) (h1 : left ≤ 1048576) :
    Calls Try.prog 58 #[.slice A n c, .int .i64 left] w fun e w' => e = .returned (.int .i64 (szL left n)) ∧ w = w' := by
  by_cases h : left - (n : Int) < 0
  · rw [szL_no h]
    go_enter Try.func58, Try.ntmps58
    go_wp2
    go_ret
    exact ⟨rfl, rfl⟩
  · rw [szL_yes h]
    go_enter Try.func58, Try.ntmps58
    go_wp2
    go_ret
    exact ⟨rfl, rfl⟩
/-- what is left of a size behind a curve -/
def szC (left n m : Int) : Int := if left - n < 0 then -1 else szL (left - n) m
theorem szC_le {left n m : Int} (_hn : 0 ≤ n) (_hm : 0 ≤ m) : szC left n m < 0 ∨ (szC left n m = left - n - m ∧ 0 ≤ left - n - m ∧ 0 ≤ left - n) := by
  unfold szC szL
  split
  · exact .inl (by omega)
  · split
    · exact .inl (by omega)
    · exact .inr ⟨rfl, by omega, by omega⟩
set_option maxHeartbeats 400000 in
theorem szCurve_any (A B : Option Addr) (c d n m : Nat) (left : Int) (w : World) (hn : n ≤ 9223372036854775807) (hm : m ≤ 9223372036854775807) (h0 : 0 ≤ left) (h1 : left ≤ 1048576) :
    Calls Try.prog 31 #[.agg #[.slice A n c, .slice B m d], .int .i64 left] w fun e w' => e = .returned (.int .i64 (szC left n m)) ∧ Below w.heap.size w w' := by
  by_cases h : left - (n : Int) < 0
  · have e1 : szC left n m = -1 := if_pos h
    rw [e1]
    go_enter Try.func31, Try.ntmps31
    go_wp2_with fail
    refine (szFloat32S_any _ _ _ _ _ hn h0 h1).mono ?_
    rintro e w' ⟨rfl, rfl⟩
    rw [szL_no (left := left) (n := n) (by omega)]
    go_wp2_with fail
    go_ret
    exact ⟨rfl, (by repeat' (first | (with_reducible exact Below.refl _ _) | (with_reducible assumption) | (with_reducible refine below_drewN ?_ _) | (with_reducible refine Below.drew ?_) | (with_reducible refine below_alloc ?_ _) | (with_reducible refine Below.setCell ?_ ?_ _) | (with_reducible refine below_then ?_ (by assumption)) | omega | (simp; done) | (simp; omega)))⟩
  · have e1 : szC left n m = szL (left - n) m := if_neg h
    rw [e1]
    by_cases h2 : left - (n : Int) - m < 0
    · go_enter Try.func31, Try.ntmps31
      go_wp2_with fail
      refine (szFloat32S_any _ _ _ _ _ hn h0 h1).mono ?_
      rintro e w' ⟨rfl, rfl⟩
      rw [szL_yes (left := left) (n := n) (by omega)]
      go_wp2_with fail
      refine (szFloat32S_any _ _ _ _ _ hm (by omega) (by omega)).mono ?_
      rintro e w' ⟨rfl, rfl⟩
      rw [szL_no (left := left - n) (n := m) (by omega)]
      go_wp2_with fail
      go_ret
      exact ⟨ret_int (szL_no (left := left - n) (n := m) (by omega)).symm, (by repeat' (first | (with_reducible exact Below.refl _ _) | (with_reducible assumption) | (with_reducible refine below_drewN ?_ _) | (with_reducible refine Below.drew ?_) | (with_reducible refine below_alloc ?_ _) | (with_reducible refine Below.setCell ?_ ?_ _) | (with_reducible refine below_then ?_ (by assumption)) | omega | (simp; done) | (simp; omega)))⟩
    · go_enter Try.func31, Try.ntmps31
      go_wp2_with fail
      refine (szFloat32S_any _ _ _ _ _ hn h0 h1).mono ?_
      rintro e w' ⟨rfl, rfl⟩
      rw [szL_yes (left := left) (n := n) (by omega)]
      go_wp2_with fail
      refine (szFloat32S_any _ _ _ _ _ hm (by omega) (by omega)).mono ?_
      rintro e w' ⟨rfl, rfl⟩
      rw [szL_yes (left := left - n) (n := m) (by omega)]
      go_wp2_with fail
      go_ret
      exact ⟨ret_int (szL_yes (left := left - n) (n := m) (by omega)).symm, (by repeat' (first | (with_reducible exact Below.refl _ _) | (with_reducible assumption) | (with_reducible refine below_drewN ?_ _) | (with_reducible refine Below.drew ?_) | (with_reducible refine below_alloc ?_ _) | (with_reducible refine Below.setCell ?_ ?_ _) | (with_reducible refine below_then ?_ (by assumption)) | omega | (simp; done) | (simp; omega)))⟩
abbrev curveV (A B : Option Addr) (n m c d : Nat) : Value := .agg #[.slice A n c, .slice B m d]
set_option maxHeartbeats 1000000 in
theorem toCurve_any (A B : Option Addr) (c d : Nat) (xs ts : List Nat) (w : World) (HX : RdF w A xs) (HT : RdF w B ts) (hl : xs.length ≤ 1048576) (hm : ts.length ≤ 1048576) :
    Calls Try.prog 33 #[.agg #[.slice A xs.length c, .slice B ts.length d]] w fun e w' => ∃ g k, e = .returned (.agg #[.slice (some ⟨g, 0, none⟩) xs.length xs.length, .slice (some ⟨k, 0, none⟩) ts.length ts.length]) ∧
      Blk w' g 22 (xs.map fv32) ∧ Blk w' k 22 (ts.map fv32) ∧ g ≠ k ∧ w.heap.size ≤ g ∧ w.heap.size ≤ k ∧ Below w.heap.size w w' := by
  go_enter Try.func33, Try.ntmps33
  go_wp2_with fail
  (refine (toFloat32S_any _ _ xs _ (HX.below (by repeat' (first | (with_reducible exact Below.refl _ _) | (with_reducible assumption) | (with_reducible refine below_drewN ?_ _) | (with_reducible refine Below.drew ?_) | (with_reducible refine below_alloc ?_ _) | (with_reducible refine Below.setCell ?_ ?_ _) | (with_reducible refine below_then ?_ (by assumption)) | omega | (simp; done) | (simp; omega)))) hl).mono ?_; rintro e w1 ⟨g1, rfl, G1, hg1, hb1⟩; have hz1 := hb1.size; (try simp at hz1); obtain ⟨hc1_0, hf1_0, hx1_0⟩ := bcell0 hb1 w.heap.size (by first | assumption | omega | (simp; done) | (simp; omega)); obtain ⟨hc1_1, hf1_1, hx1_1⟩ := bcell0 hb1 (w.heap.size + 1) (by first | assumption | omega | (simp; done) | (simp; omega)); obtain ⟨hc1_2, hf1_2, hx1_2⟩ := bcell0 hb1 (w.heap.size + 2) (by first | assumption | omega | (simp; done) | (simp; omega)))
  simp at hg1
  go_wp2_with fail
  (refine (toFloat32S_any _ _ ts _ (HT.below (by repeat' (first | (with_reducible exact Below.refl _ _) | (with_reducible assumption) | (with_reducible refine below_drewN ?_ _) | (with_reducible refine Below.drew ?_) | (with_reducible refine below_alloc ?_ _) | (with_reducible refine Below.setCell ?_ ?_ _) | (with_reducible refine below_then ?_ (by assumption)) | omega | (simp; done) | (simp; omega)))) hm).mono ?_; rintro e w2 ⟨g2, rfl, G2, hg2, hb2⟩; have hz2 := hb2.size; (try simp at hz2); obtain ⟨hc2_0, hf2_0, hx2_0⟩ := bcell0 hb2 w.heap.size (by first | assumption | omega | (simp; done) | (simp; omega)); obtain ⟨hc2_1, hf2_1, hx2_1⟩ := bcell0 hb2 (w.heap.size + 1) (by first | assumption | omega | (simp; done) | (simp; omega)); obtain ⟨hc2_2, hf2_2, hx2_2⟩ := bcell0 hb2 (w.heap.size + 2) (by first | assumption | omega | (simp; done) | (simp; omega)))
  simp at hg2
  have G1b : Blk w2 g1 22 (xs.map fv32) := Blk.below (by repeat' (first | (with_reducible assumption) | (with_reducible exact Blk.new _ _ _) | (with_reducible refine Blk.alloc ?_ _) | (with_reducible refine Blk.drewN ?_ _) | (with_reducible refine Blk.drewS ?_) | (with_reducible apply Blk.set3) | (with_reducible refine Blk.other ?_ ?_ _) | omega | (simp; done) | (simp; omega))) hb2
  have hlt1 := G1.lt
  go_wp2_with fail
  exact bodyPost_ret (v := .agg #[.slice (some ⟨g1, 0, none⟩) xs.length xs.length, .slice (some ⟨g2, 0, none⟩) ts.length ts.length]) (by simp only [results, Try.results33]; go_simp) rfl ⟨g1, g2, rfl, (by repeat' (first | (with_reducible assumption) | (with_reducible exact Blk.new _ _ _) | (with_reducible refine Blk.alloc ?_ _) | (with_reducible refine Blk.drewN ?_ _) | (with_reducible refine Blk.drewS ?_) | (with_reducible apply Blk.set3) | (with_reducible refine Blk.other ?_ ?_ _) | omega | (simp; done) | (simp; omega))), (by repeat' (first | (with_reducible assumption) | (with_reducible exact Blk.new _ _ _) | (with_reducible refine Blk.alloc ?_ _) | (with_reducible refine Blk.drewN ?_ _) | (with_reducible refine Blk.drewS ?_) | (with_reducible apply Blk.set3) | (with_reducible refine Blk.other ?_ ?_ _) | omega | (simp; done) | (simp; omega))), by omega, by omega, by omega, (by repeat' (first | (with_reducible exact Below.refl _ _) | (with_reducible assumption) | (with_reducible refine below_drewN ?_ _) | (with_reducible refine Below.drew ?_) | (with_reducible refine below_alloc ?_ _) | (with_reducible refine Below.setCell ?_ ?_ _) | (with_reducible refine below_then ?_ (by assumption)) | omega | (simp; done) | (simp; omega)))⟩
set_option maxHeartbeats 1000000 in
theorem eqCurve_any (A B A' B' : Option Addr) (c d c' d' : Nat) (xs ts xs' ts' : List Nat) (w : World) (HX : RdF w A xs) (HT : RdF w B ts) (HX' : RdF w A' xs') (HT' : RdF w B' ts') (h1 : SameL xs xs') (h2 : SameL ts ts') :
    Calls Try.prog 35 #[.agg #[.slice A xs.length c, .slice B ts.length d], .agg #[.slice A' xs'.length c', .slice B' ts'.length d']] w fun e w' => e = .returned (.bool true) ∧ Below w.heap.size w w' := by
  have H1 := Lib.hid h1
  have H2 := Lib.hid h2
  clear h1 h2
  go_enter Try.func35, Try.ntmps35
  go_wp2_with fail
  refine (eqFloat32S_any _ _ _ _ xs xs' _ (HX.below (by repeat' (first | (with_reducible exact Below.refl _ _) | (with_reducible assumption) | (with_reducible refine below_drewN ?_ _) | (with_reducible refine Below.drew ?_) | (with_reducible refine below_alloc ?_ _) | (with_reducible refine Below.setCell ?_ ?_ _) | (with_reducible refine below_then ?_ (by assumption)) | omega | (simp; done) | (simp; omega)))) (HX'.below (by repeat' (first | (with_reducible exact Below.refl _ _) | (with_reducible assumption) | (with_reducible refine below_drewN ?_ _) | (with_reducible refine Below.drew ?_) | (with_reducible refine below_alloc ?_ _) | (with_reducible refine Below.setCell ?_ ?_ _) | (with_reducible refine below_then ?_ (by assumption)) | omega | (simp; done) | (simp; omega)))) H1.out).mono ?_
  rintro e w' ⟨rfl, n, rfl⟩
  go_wp2_with fail
  refine (eqFloat32S_any _ _ _ _ ts ts' _ (HT.below (by repeat' (first | (with_reducible exact Below.refl _ _) | (with_reducible assumption) | (with_reducible refine below_drewN ?_ _) | (with_reducible refine Below.drew ?_) | (with_reducible refine below_alloc ?_ _) | (with_reducible refine Below.setCell ?_ ?_ _) | (with_reducible refine below_then ?_ (by assumption)) | omega | (simp; done) | (simp; omega)))) (HT'.below (by repeat' (first | (with_reducible exact Below.refl _ _) | (with_reducible assumption) | (with_reducible refine below_drewN ?_ _) | (with_reducible refine Below.drew ?_) | (with_reducible refine below_alloc ?_ _) | (with_reducible refine Below.setCell ?_ ?_ _) | (with_reducible refine below_then ?_ (by assumption)) | omega | (simp; done) | (simp; omega)))) H2.out).mono ?_
  rintro e w' ⟨rfl, n, rfl⟩
  go_wp2_with fail
  go_ret
  exact ⟨rfl, (by repeat' (first | (with_reducible exact Below.refl _ _) | (with_reducible assumption) | (with_reducible refine below_drewN ?_ _) | (with_reducible refine Below.drew ?_) | (with_reducible refine below_alloc ?_ _) | (with_reducible refine Below.setCell ?_ ?_ _) | (with_reducible refine below_then ?_ (by assumption)) | omega | (simp; done) | (simp; omega)))⟩
end Go.Proofs.Ytdkkdohbmpjfdaa
