/-
  LoadFactor of the program and of the reference.
-/
import Derived.Test.YtiikjnokoihhgaaUo
import Derived.Test.YtiikjnokoihhgaaNr
namespace Go.Proofs.Ytiikjnokoihhgaa
open Go.RowKit Go.Fl Go.Lb

def mxAt (us : List Int) (k : Nat) : Int := (us.take k).foldl max 0
def maxL (us : List Int) : Int := mxAt us us.length
theorem mxAt_step {us : List Int} {k : Nat} (h : k < us.length) : mxAt us (k + 1) = max (mxAt us k) (gi us k) := by
  unfold mxAt
  rw [List.take_succ_eq_append_getElem h, List.foldl_append, gi_eq h]
  rfl
theorem mxAt_bound {us : List Int} (h : small us) : ∀ k, k ≤ us.length → 0 ≤ mxAt us k ∧ mxAt us k ≤ 1000000000 := by
  intro k
  induction k with
  | zero => intro _; simp [mxAt]
  | succ k ih =>
    intro hk
    have h1 := ih (by omega)
    have h2 := h k (by omega)
    rw [mxAt_step (by omega)]
    omega
set_option maxHeartbeats 400000 in
theorem l00Max_any (a b : Int) (w : World) :
    Calls Try.prog 47 #[.int .i64 a, .int .i64 b] w fun e w' => e = .returned (.int .i64 (max a b)) ∧ w = w' := by
  by_cases h : b < a
  · go_enter Try.func47, Try.ntmps47
    go_wp2_with fail
    go_ret
    exact ⟨ret_int (by omega), rfl⟩
  · go_enter Try.func47, Try.ntmps47
    go_wp2_with fail
    go_ret
    exact ⟨ret_int (by omega), rfl⟩
set_option maxHeartbeats 1000000 in
theorem slicesMax_any (A : Option Addr) (c : Nat) (us : List Int) (w : World) (HX : RdI w A us) (hs : small us) (h0 : 0 < us.length) :
    Calls Try.prog 48 #[.slice A us.length c] w fun e w' => e = .returned (.int .i64 (maxL us)) ∧ w = w' := by
  have hm := HX.1
  have HS := Lib.hid hs
  have h0i : ¬ (us.length : Int) < 1 := by omega
  have h0p : (0 : Int) < us.length := by omega
  have hz : mxAt us 1 = gi us 0 := by
    rw [mxAt_step h0]
    have := (hs 0 h0).1
    simp [mxAt]
    omega
  have HZ := Lib.hid hz
  obtain ⟨ad, rfl, hc0⟩ := HX.at_ h0
  rw [Addr.add_zero'] at hc0
  clear hs hz
  go_enter Try.func48, Try.ntmps48
  go_wp2_with fail
  go_loopw [3, 4] (fun mv kv wr => ∃ (k : Nat) (m : Int), 1 ≤ k ∧ k ≤ us.length ∧ kv = .int .i64 k ∧ mv = .int .i64 m ∧ Hid (m = mxAt us k) ∧ wr = w) (fun _ kv _ => us.length - (intOf kv).toNat)
  case atStart => exact ⟨1, gi us 0, Nat.le_refl _, h0, rfl, rfl, HZ.out.symm, rfl⟩
  case round =>
    obtain ⟨k, m, hk1, hk, rfl, rfl, hmx, rfl⟩ := hrel
    by_cases hlt : k < us.length
    · have hki : (k : Int) < us.length := by omega
      obtain ⟨ad', ea, hc⟩ := HX.at_ hlt
      injection ea with ea
      subst ea
      have HT : Hid (max m (gi us k) = mxAt us (k + 1)) := by show _ = _; rw [mxAt_step hlt, hmx.out]
      by_cases hg : m ≤ gi us k
      all_goals
        go_wp2_with fail
        go_roundw
        case rel => exact ⟨k + 1, max m (gi us k), by omega, by omega, by go_num, (by first | rfl | (congr 1; omega) | go_num), HT, by trivial⟩
        case measure => simp [intOf]; omega
    · obtain rfl : k = us.length := by omega
      have HM := Lib.hid hmx.out
      go_wp2_with fail
      go_ret
      exact ⟨ret_int HM.out, rfl⟩
end Go.Proofs.Ytiikjnokoihhgaa
