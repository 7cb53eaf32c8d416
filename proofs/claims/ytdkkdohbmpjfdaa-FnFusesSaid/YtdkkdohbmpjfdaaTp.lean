/-
  Taps: whether one is in order, its ratios.
-/
import Derived.Test.YtdkkdohbmpjfdaaMk
import Derived.Test.YtdkkdohbmpjfdaaGo
import Derived.Deep.RegionHeld
import Derived.StillTailTactics
namespace Go.Proofs.Ytdkkdohbmpjfdaa
open Go.RowKit Go.Fl Go.Lb

abbrev tapV (bus a b c : Int) (e : Nat) : List Value := [.int .i64 bus, .int .i64 a, .int .i64 b, .int .i64 c, .float .f32 e]
abbrev tapA (bus a b c : Int) (e : Nat) : Value := .agg #[.int .i64 bus, .int .i64 a, .int .i64 b, .int .i64 c, .float .f32 e]
def tapOk (a b c : Int) (e : Nat) : Bool := inB a (-16) 16 && inB b (-16) 16 && inB c (-16) 16 && (geB e 0 && leB e 1031798784)
/-- a ratio -/
def rat (n : Int) (e : Nat) : Nat := fb .add .f32 1065353216 (fb .mul .f32 (floatOfInt .f32 n) e)
theorem rat_fv (w1 w2 : World) (n : Int) (e : Nat) : cn .f32 (fv w1 .add .f32 1065353216 (fv w2 .mul .f32 (floatOfInt .f32 n) e)) = rat n e := by
  unfold rat
  simp only [cn_fv, fb_fv_right]

set_option maxHeartbeats 400000 in
theorem toTap_any (bus a b c : Int) (e : Nat) (w : World) :
    Calls Try.prog 27 #[tapA bus a b c e] w fun r w' => r = .returned (tapA bus a b c e) ∧ Below w.heap.size w w' := by
  go_enter Try.func27, Try.ntmps27
  go_wp2_with fail
  exact bodyPost_ret (v := tapA bus a b c e) (by simp [results, Try.results27, go_sem]) rfl ⟨rfl, (by repeat' (first | (with_reducible exact Below.refl _ _) | (with_reducible assumption) | (with_reducible refine below_drewN ?_ _) | (with_reducible refine Below.drew ?_) | (with_reducible refine below_alloc ?_ _) | (with_reducible refine Below.setCell ?_ ?_ _) | (with_reducible refine below_then ?_ (by assumption)) | omega | (simp; done) | (simp; omega)))⟩

set_option maxHeartbeats 400000 in
theorem l05Ratio_any (n : Int) (e : Nat) (w : World) :
    Calls Try.prog 77 #[.int .i64 n, .float .f32 e] w fun r w' => ∃ q m, cn .f32 q = rat n e ∧ r = .returned (.float .f32 q) ∧ w' = w.drewN m := by
  go_enter Try.func77, Try.ntmps77
  go_wp2_with fail
  generalize hr : fv _ .add .f32 _ _ = q
  go_ret
  exact ⟨q, _, by rw [← hr]; exact rat_fv _ _ _ _, rfl, rfl⟩

section
variable (p : Nat) (bus a b c : Int) (e : Nat) (w : World) (HB : Blk w p 46 (tapV bus a b c e))
include HB
set_option maxHeartbeats 1000000 in
theorem l05Tap_any : Calls Try.prog 54 #[.pointer (some ⟨p, 0, none⟩)] w fun r w' => r = .returned (.bool (tapOk a b c e)) ∧ w = w' := by
  have k1 : w.cell? ⟨p, 1, none⟩ = some (.int .i64 a) := HB.cell 1
  have k2 : w.cell? ⟨p, 2, none⟩ = some (.int .i64 b) := HB.cell 2
  have k3 : w.cell? ⟨p, 3, none⟩ = some (.int .i64 c) := HB.cell 3
  have k4 : w.cell? ⟨p, 4, none⟩ = some (.float .f32 e) := HB.cell 4
  cases h1 : inB a (-16) 16 with
  | false =>
    go_enter Try.func54, Try.ntmps54
    go_wp2_with (go_at_call 68; refine (l00In_any _ _ _ _).mono ?_; rintro e w' ⟨rfl, rfl⟩)
    go_ret
    exact ⟨ret_bool (by simp [tapOk, h1]), rfl⟩
  | true =>
    cases h2 : inB b (-16) 16 with
    | false =>
      go_enter Try.func54, Try.ntmps54
      go_wp2_with (go_at_call 68; refine (l00In_any _ _ _ _).mono ?_; rintro e w' ⟨rfl, rfl⟩)
      go_ret
      exact ⟨ret_bool (by simp [tapOk, h2]), rfl⟩
    | true =>
      cases h3 : inB c (-16) 16 with
      | false =>
        go_enter Try.func54, Try.ntmps54
        go_wp2_with (go_at_call 68; refine (l00In_any _ _ _ _).mono ?_; rintro e w' ⟨rfl, rfl⟩)
        go_ret
        exact ⟨ret_bool (by simp [tapOk, h3]), rfl⟩
      | true =>
        cases h4 : geB e 0 with
        | false =>
          have h4' : (cf .f32 e 0 == some .gt || cf .f32 e 0 == some .eq) = false := h4
          go_enter Try.func54, Try.ntmps54
          go_wp2_with (go_at_call 68; refine (l00In_any _ _ _ _).mono ?_; rintro e w' ⟨rfl, rfl⟩)
          go_ret
          exact ⟨ret_bool (by simp [tapOk, h4]), rfl⟩
        | true =>
          have h4' : (cf .f32 e 0 == some .gt || cf .f32 e 0 == some .eq) = true := h4
          go_enter Try.func54, Try.ntmps54
          go_wp2_with (go_at_call 68; refine (l00In_any _ _ _ _).mono ?_; rintro e w' ⟨rfl, rfl⟩)
          go_ret
          exact ⟨ret_bool (by simp [tapOk, h1, h2, h3, h4, leB]), rfl⟩
set_option maxHeartbeats 2000000 in
theorem l05Ratios_any : Calls Try.prog 55 #[.pointer (some ⟨p, 0, none⟩)] w fun r w' => ∃ g q1 q2 q3, r = .returned (.slice (some ⟨g, 0, none⟩) 3 3) ∧ Blk w' g 22 ([q1, q2, q3].map fv32) ∧ w.heap.size ≤ g ∧
    cn .f32 q1 = rat a e ∧ cn .f32 q2 = rat b e ∧ cn .f32 q3 = rat c e ∧ Below w.heap.size w w' := by
  have k1 : w.cell? ⟨p, 1, none⟩ = some (.int .i64 a) := HB.cell 1
  have k2 : w.cell? ⟨p, 2, none⟩ = some (.int .i64 b) := HB.cell 2
  have k3 : w.cell? ⟨p, 3, none⟩ = some (.int .i64 c) := HB.cell 3
  have k4 : w.cell? ⟨p, 4, none⟩ = some (.float .f32 e) := HB.cell 4
  go_enter Try.func55, Try.ntmps55
  go_wp2_with fail
  go_region_held (fun w' => w'.cell? ⟨p, 1, none⟩ = some (.int .i64 a) ∧ w'.cell? ⟨p, 2, none⟩ = some (.int .i64 b) ∧ w'.cell? ⟨p, 3, none⟩ = some (.int .i64 c) ∧ w'.cell? ⟨p, 4, none⟩ = some (.float .f32 e))
    (first | exact ⟨k1, k2, k3, k4⟩ | exact ⟨cell_keep (below_alloc (Below.refl _ _) _) k1, cell_keep (below_alloc (Below.refl _ _) _) k2, cell_keep (below_alloc (Below.refl _ _) _) k3, cell_keep (below_alloc (Below.refl _ _) _) k4⟩)
    (first | (go_at_call 77; refine (l05Ratio_any _ _ _).mono ?_; rintro r w' ⟨q, m, hq, rfl, rfl⟩))
  all_goals
    go_wp2_with fail
    go_ret
    exact ⟨_, _, _, _, rfl, Blk.new _ _ [_, _, _], by simp, by assumption, by assumption, by assumption, (by repeat' (first | (with_reducible exact Below.refl _ _) | (with_reducible assumption) | (with_reducible refine below_drewN ?_ _) | (with_reducible refine Below.drew ?_) | (with_reducible refine below_alloc ?_ _) | (with_reducible refine Below.setCell ?_ ?_ _) | (with_reducible refine below_then ?_ (by assumption)) | omega | (simp; done) | (simp; omega)))⟩
set_option maxHeartbeats 1000000 in
theorem steps_any : Calls Try.prog 78 #[.pointer (some ⟨p, 0, none⟩)] w fun r w' => ∃ g, r = .returned (.slice (some ⟨g, 0, none⟩) 3 3) ∧ Blk w' g 2 [.int .i64 a, .int .i64 b, .int .i64 c] ∧ w.heap.size ≤ g ∧ Below w.heap.size w w' := by
  have k1 : w.cell? ⟨p, 1, none⟩ = some (.int .i64 a) := HB.cell 1
  have k2 : w.cell? ⟨p, 2, none⟩ = some (.int .i64 b) := HB.cell 2
  have k3 : w.cell? ⟨p, 3, none⟩ = some (.int .i64 c) := HB.cell 3
  go_enter Try.func78, Try.ntmps78
  go_wp2_with fail
  go_region_held (fun w' => w'.cell? ⟨p, 1, none⟩ = some (.int .i64 a) ∧ w'.cell? ⟨p, 2, none⟩ = some (.int .i64 b) ∧ w'.cell? ⟨p, 3, none⟩ = some (.int .i64 c))
    (first | exact ⟨k1, k2, k3⟩ | exact ⟨cell_keep (below_alloc (Below.refl _ _) _) k1, cell_keep (below_alloc (Below.refl _ _) _) k2, cell_keep (below_alloc (Below.refl _ _) _) k3⟩)
    (first | fail)
  all_goals
    go_wp2_with fail
    go_ret
    exact ⟨_, rfl, Blk.new _ _ [_, _, _], by simp, (by repeat' (first | (with_reducible exact Below.refl _ _) | (with_reducible assumption) | (with_reducible refine below_drewN ?_ _) | (with_reducible refine Below.drew ?_) | (with_reducible refine below_alloc ?_ _) | (with_reducible refine Below.setCell ?_ ?_ _) | (with_reducible refine below_then ?_ (by assumption)) | omega | (simp; done) | (simp; omega)))⟩
end
end Go.Proofs.Ytdkkdohbmpjfdaa
