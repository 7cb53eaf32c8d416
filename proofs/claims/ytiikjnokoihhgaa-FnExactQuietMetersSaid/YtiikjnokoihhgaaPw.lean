/-
  Meters: powers of ten; whether a number is between two.
-/
import Derived.Test.YtiikjnokoihhgaaIs
namespace Go.Proofs.Ytiikjnokoihhgaa
open Go.RowKit Go.Fl Go.Lb

/-- 'n is from low to high' -/
def inB (n low high : Int) : Bool := decide (low ≤ n) && decide (n ≤ high)
set_option maxHeartbeats 400000 in
theorem in_any (n low high : Int) (w : World) :
    Calls Try.prog 39 #[.int .i64 n, .int .i64 low, .int .i64 high] w fun e w' => e = .returned (.bool (inB n low high)) ∧ w = w' := by
  by_cases h1 : low ≤ n <;> by_cases h2 : n ≤ high
  all_goals
    go_enter Try.func39, Try.ntmps39
    go_wp2
    go_ret
    exact ⟨ret_bool (by simp [inB, h1, h2]), rfl⟩
set_option maxHeartbeats 400000 in
theorem l00In_any (n low high : Int) (w : World) :
    Calls Try.prog 51 #[.int .i64 n, .int .i64 low, .int .i64 high] w fun e w' => e = .returned (.bool (inB n low high)) ∧ w = w' := by
  by_cases h1 : low ≤ n <;> by_cases h2 : n ≤ high
  all_goals
    go_enter Try.func51, Try.ntmps51
    go_wp2
    go_ret
    exact ⟨ret_bool (by simp [inB, h1, h2]), rfl⟩

/-- ten to a power -/
def pw : Nat → Nat
  | 0 => 1
  | k + 1 => pw k * 10
theorem pw_le : ∀ {k m : Nat}, k ≤ m → pw k ≤ pw m := by
  intro k m h
  induction m with
  | zero => obtain rfl : k = 0 := by omega
            exact Nat.le_refl _
  | succ m ih =>
    rcases Nat.lt_or_ge k (m + 1) with h' | h'
    · have := ih (by omega)
      have : pw (m + 1) = pw m * 10 := rfl
      omega
    · obtain rfl : k = m + 1 := by omega
      exact Nat.le_refl _
theorem pw_9 : pw 9 = 1000000000 := by decide
theorem pw_pos (k : Nat) : 1 ≤ pw k := pw_le (Nat.zero_le k)
set_option maxHeartbeats 400000 in
theorem l09Power_any (d : Nat) (hd : d ≤ 9) (w : World) :
    Calls Try.prog 52 #[.int .i64 d] w fun e w' => e = .returned (.int .i64 (pw d)) ∧ w = w' := by
  go_enter Try.func52, Try.ntmps52
  go_wp2_with fail
  go_loopw [0, 3] (fun dv nv wr => ∃ k p : Nat, k ≤ d ∧ dv = .int .i64 k ∧ nv = .int .i64 p ∧ Hid (p = pw (d - k)) ∧ wr = w) (fun dv _ _ => (intOf dv).toNat)
  case atStart => exact ⟨d, 1, Nat.le_refl _, rfl, rfl, (by rw [Nat.sub_self]; rfl : 1 = pw (d - d)), rfl⟩
  case round =>
    obtain ⟨k, p, hk, rfl, rfl, hp, rfl⟩ := hrel
    by_cases h0 : 0 < k
    · obtain ⟨j, hj⟩ : ∃ j, k = j + 1 := ⟨k - 1, by omega⟩
      have hlt : p ≤ 100000000 := by
        have h1 := hp.out
        have h2 : pw (d - k + 1) ≤ pw 9 := pw_le (by omega)
        have h3 : pw (d - k + 1) = pw (d - k) * 10 := rfl
        rw [pw_9] at h2
        omega
      have HP : Hid (p * 10 = pw (d - j)) := by
        have h1 := hp.out
        have h3 : pw (d - k + 1) = pw (d - k) * 10 := rfl
        rw [h1, show d - j = d - k + 1 by omega, h3]
        rfl
      subst hj
      go_wp2_with fail
      go_roundw
      case rel => exact ⟨j, p * 10, by omega, by go_num, by go_num, HP, by trivial⟩
      case measure => simp [intOf]
    · obtain rfl : k = 0 := by omega
      have hp' : p = pw d := hp.out
      go_wp2_with fail
      go_ret
      exact ⟨ret_int (by rw [hp']), rfl⟩
set_option maxHeartbeats 400000 in
theorem around_any (p o d : Nat) (hd : d ≤ 9) (w : World) (h0 : w.cell? ⟨p, o, none⟩ = some (.int .i64 d)) :
    Calls Try.prog 42 #[.pointer (some ⟨p, o, none⟩)] w fun e w' => e = .returned (.int .i64 (pw d)) ∧ w = w' := by
  go_enter Try.func42, Try.ntmps42
  go_wp2_with fail
  go_loopw [3, 8] (fun nv iv wr => ∃ k q : Nat, k ≤ d ∧ iv = .int .i64 k ∧ nv = .int .i64 q ∧ Hid (q = pw k) ∧ wr = w) (fun _ iv _ => d - (intOf iv).toNat)
  case atStart => exact ⟨0, 1, Nat.zero_le _, rfl, rfl, (rfl : 1 = pw 0), rfl⟩
  case round =>
    obtain ⟨k, q, hk, rfl, rfl, hp, rfl⟩ := hrel
    by_cases h0 : k < d
    · have hlt : q ≤ 100000000 := by
        have h1 := hp.out
        have h2 : pw (k + 1) ≤ pw 9 := pw_le (by omega)
        have h3 : pw (k + 1) = pw k * 10 := rfl
        rw [pw_9] at h2
        omega
      have HP : Hid (q * 10 = pw (k + 1)) := by
        have h1 := hp.out
        rw [h1]
        rfl
      go_wp2_with fail
      go_roundw
      case rel => exact ⟨k + 1, q * 10, by omega, by go_num, by go_num, HP, by trivial⟩
      case measure => simp [intOf]; omega
    · obtain rfl : k = d := by omega
      have hp' : q = pw k := hp.out
      go_wp2_with fail
      go_ret
      exact ⟨ret_int (by rw [hp']), rfl⟩
end Go.Proofs.Ytiikjnokoihhgaa
