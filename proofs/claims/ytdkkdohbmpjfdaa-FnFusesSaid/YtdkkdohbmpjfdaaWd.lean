/-
  The law FnExactHeatFuse, walked.
-/
import Derived.Test.YtdkkdohbmpjfdaaWc
namespace Go.Proofs.Ytdkkdohbmpjfdaa
open Go.RowKit Go.Fl Go.Lb

/-- the numbers that HeatFuse hands back, up to which NaN the heat is -/
def heatR (h l c cur t : Nat) : Nat × Nat × Nat × Bool × Bool :=
  if (vfuse h l c && nearB t) && vfuse (heat h c cur t) l c then (heat h c cur t, l, c, geq (heat h c cur t) l, true) else (0, 0, 0, false, false)
theorem cn_zero32 : cn .f32 0 = 0 := cn_of_not (by decide +kernel)
theorem HeatAll.shape {h l c cur t : Nat} {e : Ending} (he : HeatAll h l c cur t e) :
    ∃ r, cn .f32 r = (heatR h l c cur t).1 ∧ e = .returned (.tuple #[fuseV r (heatR h l c cur t).2.1 (heatR h l c cur t).2.2.1, .bool (heatR h l c cur t).2.2.2.1, .bool (heatR h l c cur t).2.2.2.2]) := by
  unfold HeatAll HeatOk at he
  unfold heatR
  cases h1 : (vfuse h l c && nearB t) with
  | false =>
    rw [h1] at he
    exact ⟨0, cn_zero32, he⟩
  | true =>
    rw [h1] at he
    cases h2 : vfuse (heat h c cur t) l c with
    | false =>
      simp only [h2] at he
      exact ⟨0, cn_zero32, he⟩
    | true =>
      simp only [h2] at he
      exact he

set_option maxHeartbeats 1000000 in
theorem fnExactHeatFuse_walk (h l c cur t : Nat) (w : World) :
    Calls Try.prog 5 #[fuseV h l c, .float .f32 cur, .float .f32 t] w fun e w' => e = .returned (.bool true) ∧ Below w.heap.size w w' := by
  generalize hR : heatR h l c cur t = R
  have HR := Lib.hid hR
  clear hR
  go_enter Try.func5, Try.ntmps5
  go_wp2_with fail
  (refine (toFuse_any _ _ _ _).mono ?_; rintro e w1 ⟨rfl, hb1⟩; have hz1 := hb1.size; (try simp at hz1); obtain ⟨hc1_0, hf1_0, hx1_0⟩ := bcell0 hb1 w.heap.size (by first | assumption | omega | (simp; done) | (simp; omega)))
  go_wp2_with fail
  (refine (heatFuseS_any _ _ _ _ _ _).mono ?_; rintro e w2 ⟨he, hb2⟩; obtain ⟨r, hr, rfl⟩ := he.shape; rw [HR.out] at hr ⊢; have Hr := Lib.hid hr; clear hr; have hz2 := hb2.size; (try simp at hz2); obtain ⟨hc2_0, hf2_0, hx2_0⟩ := bcell0 hb2 w.heap.size (by first | assumption | omega | (simp; done) | (simp; omega)))
  go_wp2_with fail
  (refine (toFuse_any _ _ _ _).mono ?_; rintro e w3 ⟨rfl, hb3⟩; have hz3 := hb3.size; (try simp at hz3); obtain ⟨hc3_0, hf3_0, hx3_0⟩ := bcell0 hb3 w.heap.size (by first | assumption | omega | (simp; done) | (simp; omega)); obtain ⟨hc3_1, hf3_1, hx3_1⟩ := bcell0 hb3 w2.heap.size (by first | assumption | omega | (simp; done) | (simp; omega)))
  go_wp2_with fail
  (refine (heatFuseI_any _ _ _ _ _ _).mono ?_; rintro e w4 ⟨he, hb4⟩; obtain ⟨q, hq, rfl⟩ := he.shape; rw [HR.out] at hq ⊢; have Hq := Lib.hid hq; clear hq; have hz4 := hb4.size; (try simp at hz4); obtain ⟨hc4_0, hf4_0, hx4_0⟩ := bcell0 hb4 w.heap.size (by first | assumption | omega | (simp; done) | (simp; omega)); obtain ⟨hc4_1, hf4_1, hx4_1⟩ := bcell0 hb4 w2.heap.size (by first | assumption | omega | (simp; done) | (simp; omega)))
  go_wp2_with fail
  (refine (eqFuse_any _ _ _ _ _ _ _ (Hq.out.trans Hr.out.symm) rfl rfl).mono ?_; rintro e w5 ⟨rfl, hb5⟩; have hz5 := hb5.size; (try simp at hz5); obtain ⟨hc5_0, hf5_0, hx5_0⟩ := bcell0 hb5 w.heap.size (by first | assumption | omega | (simp; done) | (simp; omega)); obtain ⟨hc5_1, hf5_1, hx5_1⟩ := bcell0 hb5 w2.heap.size (by first | assumption | omega | (simp; done) | (simp; omega)); obtain ⟨hc5_2, hf5_2, hx5_2⟩ := bcell0 hb5 w4.heap.size (by first | assumption | omega | (simp; done) | (simp; omega)))
  go_wp2_with fail
  go_ret
  exact ⟨rfl, (by repeat' (first | (with_reducible exact Below.refl _ _) | (with_reducible assumption) | (with_reducible refine below_drewN ?_ _) | (with_reducible refine Below.drew ?_) | (with_reducible refine below_alloc ?_ _) | (with_reducible refine Below.setCell ?_ ?_ _) | (with_reducible refine below_then ?_ (by assumption)) | omega | (simp; done) | (simp; omega)))⟩
end Go.Proofs.Ytdkkdohbmpjfdaa
