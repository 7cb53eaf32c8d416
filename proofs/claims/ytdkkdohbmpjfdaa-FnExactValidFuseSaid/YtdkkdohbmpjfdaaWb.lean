/-
  The fuse: ValidFuse, HeatFuse, and the law's own helpers, walked.
-/
import Derived.Test.YtdkkdohbmpjfdaaWa
namespace Go.Proofs.Ytdkkdohbmpjfdaa
open Go.RowKit Go.Fl Go.Lb

/-- a fuse's value -/
abbrev fuseV (h l c : Nat) : Value := .agg #[.float .f32 h, .float .f32 l, .float .f32 c]
/-- a valid fuse -/
def vfuse (h l c : Nat) : Bool := (fin h && !ltz h) && (fin c && !ltz c) && (fin l && pos l)

set_option maxHeartbeats 400000 in
theorem toFuse_any (h l c : Nat) (w : World) :
    Calls Try.prog 15 #[fuseV h l c] w fun e w' => e = .returned (fuseV h l c) ∧ Below w.heap.size w w' := by
  go_enter Try.func15, Try.ntmps15
  go_wp2_with fail
  exact bodyPost_ret (v := fuseV h l c) (by simp [results, Try.results15, go_sem]) rfl ⟨rfl, (by repeat' (first | exact Below.refl _ _ | assumption | refine below_drewN ?_ _ | refine Below.drew ?_ | refine below_alloc ?_ _ | (refine Below.setCell ?_ (by simp; omega) _) | (refine below_then ?_ (by assumption))))⟩
set_option maxHeartbeats 400000 in
theorem l07Fuse_any (b : Nat) (h l c : Nat) (w : World) (h0 : w.cell? ⟨b, 0, none⟩ = some (.float .f32 h)) (h1 : w.cell? ⟨b, 1, none⟩ = some (.float .f32 l)) (h2 : w.cell? ⟨b, 2, none⟩ = some (.float .f32 c)) :
    Calls Try.prog 49 #[.pointer (some ⟨b, 0, none⟩)] w fun e w' => e = .returned (.bool (vfuse h l c)) ∧ ∃ n, w' = w.drewN n := by
  go_enter Try.func49, Try.ntmps49
  go_wp2_with (first | (go_at_call 52; refine (l03Near_any _ _).mono ?_; rintro e w' ⟨rfl, n, rfl⟩) | (go_at_call 71; refine (l07Positive_any _ _).mono ?_; rintro e w' ⟨rfl, n, rfl⟩))
  all_goals (go_ret; refine ⟨?_, _, rfl⟩; simp_all [vfuse])
theorem vfuse_impl (h l c : Nat) : vfuse h l c = (allFin [h, c] && !anyNeg [h, c] && (fin l && pos l)) := by
  unfold vfuse allFin anyNeg
  simp only [List.any_cons, List.any_nil, Bool.or_false]
  cases fin h <;> cases fin c <;> cases ltz h <;> cases ltz c <;> cases fin l <;> rfl
set_option maxHeartbeats 400000 in
theorem validFuseI_any (h l c : Nat) (w : World) :
    Calls Try.prog 16 #[fuseV h l c] w fun e w' => e = .returned (.bool (vfuse h l c)) ∧ Below w.heap.size w w' := by
  go_enter Try.func16, Try.ntmps16
  go_wp2_with fail
  refine (levelOk_any _ _ [h, c] _ (rdF_two (by go_simp) (by go_simp))).mono ?_
  rintro e w' ⟨rfl, n, rfl⟩
  go_wp2_with (go_at_call 51; refine (plusFinite_any _ _).mono ?_; rintro e w' ⟨rfl, n, rfl⟩)
  all_goals (go_ret; refine ⟨ret_bool ?_, (by repeat' (first | exact Below.refl _ _ | assumption | refine below_drewN ?_ _ | refine Below.drew ?_ | refine below_alloc ?_ _ | (refine Below.setCell ?_ (by simp; omega) _) | (refine below_then ?_ (by assumption))))⟩; simp_all [vfuse_impl])
set_option maxHeartbeats 400000 in
theorem validFuseS_any (h l c : Nat) (w : World) :
    Calls Try.prog 14 #[fuseV h l c] w fun e w' => e = .returned (.bool (vfuse h l c)) ∧ Below w.heap.size w w' := by
  go_enter Try.func14, Try.ntmps14
  go_wp2_with (go_at_call 49; refine (l07Fuse_any _ h l c _ (by go_simp) (by go_simp) (by go_simp)).mono ?_; rintro e w' ⟨rfl, n, rfl⟩)
  go_ret
  exact ⟨rfl, (by repeat' (first | exact Below.refl _ _ | assumption | refine below_drewN ?_ _ | refine Below.drew ?_ | refine below_alloc ?_ _ | (refine Below.setCell ?_ (by simp; omega) _) | (refine below_then ?_ (by assumption))))⟩
set_option maxHeartbeats 400000 in
theorem fnExactValidFuse_walk (h l c : Nat) (w : World) :
    Calls Try.prog 3 #[fuseV h l c] w fun e w' => e = .returned (.bool true) ∧ Below w.heap.size w w' := by
  go_enter Try.func3, Try.ntmps3
  go_wp2_with (first | (go_at_call 15; refine (toFuse_any _ _ _ _).mono ?_; rintro e w1 ⟨rfl, hb⟩; obtain ⟨hc, hf⟩ := bcell hb; have hz := hb.size; have hk := below_lt hb; try simp at hz; try simp at hk; try simp at hc; try simp at hf) | (go_at_call 14; refine (validFuseS_any _ _ _ _).mono ?_; rintro e w1 ⟨rfl, hb⟩; obtain ⟨hc, hf⟩ := bcell hb; have hz := hb.size; have hk := below_lt hb; try simp at hz; try simp at hk; try simp at hc; try simp at hf) | (go_at_call 16; refine (validFuseI_any _ _ _ _).mono ?_; rintro e w1 ⟨rfl, hb⟩; obtain ⟨hc, hf⟩ := bcell hb; have hz := hb.size; have hk := below_lt hb; try simp at hz; try simp at hk; try simp at hc; try simp at hf))
  go_ret
  exact ⟨rfl, (by repeat' (first | exact Below.refl _ _ | assumption | refine below_drewN ?_ _ | refine Below.drew ?_ | refine below_alloc ?_ _ | (refine Below.setCell ?_ (by simp; omega) _) | (refine below_then ?_ (by assumption))))⟩
end Go.Proofs.Ytdkkdohbmpjfdaa
