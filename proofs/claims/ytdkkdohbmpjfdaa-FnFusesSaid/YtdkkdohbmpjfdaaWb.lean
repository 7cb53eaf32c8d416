/-
  The fuse: ValidFuse, HeatFuse, and the law's own helpers, walked.
-/
import Derived.Test.YtdkkdohbmpjfdaaWa
namespace Go.Proofs.Ytdkkdohbmpjfdaa
open Go.RowKit Go.Fl Go.Lb

/-- a fuse's value -/
abbrev fuseV (h l c : Nat) : Value := .agg #[.float .f32 h, .float .f32 l, .float .f32 c]
/-- a valid fuse -/
def vfuse (h l c : Nat) : Bool := nearB h && nearB c && plusB l

set_option maxHeartbeats 400000 in
theorem toFuse_any (h l c : Nat) (w : World) :
    Calls Try.prog 15 #[fuseV h l c] w fun e w' => e = .returned (fuseV h l c) ∧ Below w.heap.size w w' := by
  go_enter Try.func15, Try.ntmps15
  go_wp2_with fail
  exact bodyPost_ret (v := fuseV h l c) (by simp [results, Try.results15, go_sem]) rfl ⟨rfl, (by repeat' (first | (with_reducible exact Below.refl _ _) | (with_reducible assumption) | (with_reducible refine below_drewN ?_ _) | (with_reducible refine Below.drew ?_) | (with_reducible refine below_alloc ?_ _) | (with_reducible refine Below.setCell ?_ ?_ _) | (with_reducible refine below_then ?_ (by assumption)) | omega | (simp; done) | (simp; omega)))⟩
set_option maxHeartbeats 400000 in
theorem l07Fuse_any (b : Nat) (h l c : Nat) (w : World) (h0 : w.cell? ⟨b, 0, none⟩ = some (.float .f32 h)) (h1 : w.cell? ⟨b, 1, none⟩ = some (.float .f32 l)) (h2 : w.cell? ⟨b, 2, none⟩ = some (.float .f32 c)) :
    Calls Try.prog 49 #[.pointer (some ⟨b, 0, none⟩)] w fun e w' => e = .returned (.bool (vfuse h l c)) ∧ ∃ n, w' = w.drewN n := by
  go_enter Try.func49, Try.ntmps49
  go_wp2_with (first | (go_at_call 52; refine (l03Near_any _ _).mono ?_; rintro e w' ⟨rfl, n, rfl⟩) | (go_at_call 71; refine (l07Positive_any _ _).mono ?_; rintro e w' ⟨rfl, n, rfl⟩))
  all_goals (go_ret; refine ⟨?_, _, rfl⟩; simp_all [vfuse])
theorem vfuse_impl (h l c : Nat) : vfuse h l c = (allFin [h, c] && !anyNeg [h, c] && plusB l) := by
  unfold vfuse allFin anyNeg nearB
  simp only [List.any_cons, List.any_nil, Bool.or_false]
  cases fin h <;> cases fin c <;> cases ltz h <;> cases ltz c <;> rfl
theorem levelOne_any (a : Addr) (t : Nat) (w : World) (h0 : w.cell? a = some (.float .f32 t)) :
    Calls Try.prog 50 #[.slice (some a) 1 1] w fun e w' => e = .returned (.bool (nearB t)) ∧ ∃ n, w' = w.drewN n := by
  have e1 : (allFin [t] && !anyNeg [t]) = nearB t := by
    unfold allFin anyNeg nearB
    simp only [List.any_cons, List.any_nil, Bool.or_false]
    cases fin t <;> rfl
  have := levelOk_any (some a) 1 [t] w (rdF_one h0)
  rwa [e1] at this
set_option maxHeartbeats 400000 in
theorem validFuseI_any (h l c : Nat) (w : World) :
    Calls Try.prog 16 #[fuseV h l c] w fun e w' => e = .returned (.bool (vfuse h l c)) ∧ Below w.heap.size w w' := by
  go_enter Try.func16, Try.ntmps16
  go_wp2_with fail
  refine (levelOk_any _ _ [h, c] _ (rdF_two (by go_simp) (by go_simp))).mono ?_
  rintro e w' ⟨rfl, n, rfl⟩
  go_wp2_with (go_at_call 51; refine (plusFinite_any _ _).mono ?_; rintro e w' ⟨rfl, n, rfl⟩)
  all_goals (go_ret; refine ⟨ret_bool ?_, (by repeat' (first | (with_reducible exact Below.refl _ _) | (with_reducible assumption) | (with_reducible refine below_drewN ?_ _) | (with_reducible refine Below.drew ?_) | (with_reducible refine below_alloc ?_ _) | (with_reducible refine Below.setCell ?_ ?_ _) | (with_reducible refine below_then ?_ (by assumption)) | omega | (simp; done) | (simp; omega)))⟩; simp_all [vfuse_impl])
set_option maxHeartbeats 400000 in
theorem validFuseS_any (h l c : Nat) (w : World) :
    Calls Try.prog 14 #[fuseV h l c] w fun e w' => e = .returned (.bool (vfuse h l c)) ∧ Below w.heap.size w w' := by
  go_enter Try.func14, Try.ntmps14
  go_wp2_with (go_at_call 49; refine (l07Fuse_any _ h l c _ (by go_simp) (by go_simp) (by go_simp)).mono ?_; rintro e w' ⟨rfl, n, rfl⟩)
  go_ret
  exact ⟨rfl, (by repeat' (first | (with_reducible exact Below.refl _ _) | (with_reducible assumption) | (with_reducible refine below_drewN ?_ _) | (with_reducible refine Below.drew ?_) | (with_reducible refine below_alloc ?_ _) | (with_reducible refine Below.setCell ?_ ?_ _) | (with_reducible refine below_then ?_ (by assumption)) | omega | (simp; done) | (simp; omega)))⟩
set_option maxHeartbeats 400000 in
theorem fnExactValidFuse_walk (h l c : Nat) (w : World) :
    Calls Try.prog 3 #[fuseV h l c] w fun e w' => e = .returned (.bool true) ∧ Below w.heap.size w w' := by
  go_enter Try.func3, Try.ntmps3
  go_wp2_with (first | (go_at_call 15; refine (toFuse_any _ _ _ _).mono ?_; rintro e w1 ⟨rfl, hb⟩; have hz := hb.size; (try simp at hz); obtain ⟨hc0, hf0, hx0⟩ := bcell0 hb w.heap.size (by first | assumption | omega | (simp; done) | (simp; omega))) | (go_at_call 14; refine (validFuseS_any _ _ _ _).mono ?_; rintro e w1 ⟨rfl, hb⟩; have hz := hb.size; (try simp at hz); obtain ⟨hc0, hf0, hx0⟩ := bcell0 hb w.heap.size (by first | assumption | omega | (simp; done) | (simp; omega))) | (go_at_call 16; refine (validFuseI_any _ _ _ _).mono ?_; rintro e w1 ⟨rfl, hb⟩; have hz := hb.size; (try simp at hz); obtain ⟨hc0, hf0, hx0⟩ := bcell0 hb w.heap.size (by first | assumption | omega | (simp; done) | (simp; omega))))

  go_ret
  exact ⟨rfl, (by repeat' (first | (with_reducible exact Below.refl _ _) | (with_reducible assumption) | (with_reducible refine below_drewN ?_ _) | (with_reducible refine Below.drew ?_) | (with_reducible refine below_alloc ?_ _) | (with_reducible refine Below.setCell ?_ ?_ _) | (with_reducible refine below_then ?_ (by assumption)) | omega | (simp; done) | (simp; omega)))⟩
end Go.Proofs.Ytdkkdohbmpjfdaa
