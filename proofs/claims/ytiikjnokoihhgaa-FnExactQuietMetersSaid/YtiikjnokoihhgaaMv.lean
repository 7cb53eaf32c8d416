/-
  Whether a meter is valid.
-/
import Derived.Test.YtiikjnokoihhgaaPw
namespace Go.Proofs.Ytiikjnokoihhgaa
open Go.RowKit Go.Fl Go.Lb

theorem all_idx_step {q : Nat → Bool} {k : Nat} (h : ∀ j, j < k → q j = true) (hk : q k = true) : ∀ j, j < k + 1 → q j = true := fun j hj => by
  rcases Nat.lt_or_ge j k with h' | h'
  · exact h j h'
  · obtain rfl : j = k := by omega
    exact hk
/-- a reading is in order -/
def readOk (d : Nat) (x : Int) : Bool := inB x 0 ((pw d : Int) - 1)
def readsOk (d : Nat) (xs : List Int) : Bool := (List.range xs.length).all fun j => readOk d (gi xs j)
theorem readsOk_no {d : Nat} {xs : List Int} {k : Nat} (hk : k < xs.length) (h : readOk d (gi xs k) = false) : readsOk d xs = false := by
  unfold readsOk
  rw [List.all_eq_false]
  exact ⟨k, by simpa using hk, by simpa using h⟩
theorem readsOk_yes {d : Nat} {xs : List Int} (h : ∀ j, j < xs.length → readOk d (gi xs j) = true) : readsOk d xs = true := by
  unfold readsOk
  simp only [List.all_eq_true, List.mem_range]
  exact h
/-- a meter is valid -/
def validM (z : Int) (xs : List Int) : Bool := inB z 1 9 && decide (xs.length ≤ 256) && readsOk z.toNat xs
theorem validM_long {z : Int} {xs : List Int} (h : 256 < xs.length) : validM z xs = false := by
  unfold validM
  rw [decide_eq_false (show ¬ xs.length ≤ 256 by omega), Bool.and_false, Bool.false_and]
theorem digits_of {z : Int} (h : inB z 1 9 = true) : ∃ d : Nat, z = d ∧ 1 ≤ d ∧ d ≤ 9 := by
  unfold inB at h
  simp at h
  exact ⟨z.toNat, by omega, by omega, by omega⟩
set_option maxHeartbeats 1000000 in
theorem l09Meter_any (p o : Nat) (A : Option Addr) (c : Nat) (z : Int) (xs : List Int) (w : World) (h0 : w.cell? ⟨p, o, none⟩ = some (.int .i64 z)) (h1 : w.cell? ⟨p, o + 1, none⟩ = some (.slice A xs.length c)) (HX : RdI w A xs) :
    Calls Try.prog 38 #[.pointer (some ⟨p, o, none⟩)] w fun e w' => e = .returned (.bool (validM z xs)) ∧ w = w' := by
  have hm := HX.1
  cases hz : inB z 1 9 with
  | false =>
    go_enter Try.func38, Try.ntmps38
    go_wp2_with (go_at_call 51; refine (l00In_any _ _ _ _).mono ?_; rintro e w' ⟨rfl, rfl⟩)
    go_ret
    exact ⟨ret_bool (by simp [validM, hz]), rfl⟩
  | true =>
    by_cases hn : 256 < xs.length
    · have hni : 256 < (xs.length : Int) := by omega
      go_enter Try.func38, Try.ntmps38
      go_wp2_with (go_at_call 51; refine (l00In_any _ _ _ _).mono ?_; rintro e w' ⟨rfl, rfl⟩)
      go_ret
      exact ⟨ret_bool (validM_long hn).symm, rfl⟩
    · have hni : ¬ 256 < (xs.length : Int) := by omega
      obtain ⟨d, rfl, hd1, hd⟩ := digits_of hz
      have HV : Hid (validM d xs = readsOk d xs) := by
        show _ = _
        unfold validM
        rw [hz, decide_eq_true (by omega)]
        rfl
      have hp1 := pw_pos d
      have hp9 : pw d ≤ pw 9 := pw_le hd
      rw [pw_9] at hp9
      go_enter Try.func38, Try.ntmps38
      go_wp2_with (first | (go_at_call 51; refine (l00In_any _ _ _ _).mono ?_; rintro e w' ⟨rfl, rfl⟩) | (go_at_call 52; refine (l09Power_any d hd _).mono ?_; rintro e w' ⟨rfl, rfl⟩))
      go_loopw [29] (fun i wr => ∃ k : Nat, k ≤ xs.length ∧ i = .int .i64 k ∧ wr = w ∧ Hid (∀ j, j < k → readOk d (gi xs j) = true)) (fun i _ => xs.length - (intOf i).toNat)
      case atStart => exact ⟨0, Nat.zero_le _, rfl, rfl, fun j hj => absurd hj (by omega)⟩
      case round =>
        obtain ⟨k, hk, rfl, rfl, hall⟩ := hrel
        by_cases hlt : k < xs.length
        · obtain ⟨a, rfl, hca⟩ := HX.at_ hlt
          cases hr : readOk d (gi xs k) with
          | false =>
            have HN := Lib.hid (readsOk_no hlt hr)
            have hr' : inB (gi xs k) 0 ((pw d : Int) - 1) = false := hr
            go_wp2_with (go_at_call 51; refine (l00In_any _ _ _ _).mono ?_; rintro e w' ⟨rfl, rfl⟩)
            go_ret
            exact ⟨ret_bool (by rw [HV.out, HN.out]), rfl⟩
          | true =>
            have HY := Lib.hid hr
            have hr' : inB (gi xs k) 0 ((pw d : Int) - 1) = true := hr
            clear hr
            go_wp2_with (go_at_call 51; refine (l00In_any _ _ _ _).mono ?_; rintro e w' ⟨rfl, rfl⟩)
            go_roundw
            case rel => exact ⟨k + 1, by omega, by go_num, by trivial, all_idx_step (q := fun j => readOk d (gi xs j)) hall.out HY.out⟩
            case measure => simp [intOf]; omega
        · obtain rfl : k = xs.length := by omega
          have HY := Lib.hid (readsOk_yes hall.out)
          go_wp2_with fail
          go_ret
          exact ⟨ret_bool (by rw [HV.out, HY.out]), rfl⟩
end Go.Proofs.Ytiikjnokoihhgaa
