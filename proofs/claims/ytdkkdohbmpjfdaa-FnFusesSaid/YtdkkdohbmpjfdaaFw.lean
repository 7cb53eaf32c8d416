/-
  The law's own bytes: b10At, b10Long.
-/
import Derived.Test.YtdkkdohbmpjfdaaFv
namespace Go.Proofs.Ytdkkdohbmpjfdaa
open Go.RowKit Go.Fl Go.Lb

/-- the element at a place, closed to simp -/
def gu (xs : List Int) (k : Nat) : Int := xs.getD k 0
theorem gu_eq {xs : List Int} {k : Nat} (h : k < xs.length) : gu xs k = xs[k] := by simp [gu, List.getElem?_eq_getElem h]
/-- a row of bytes -/
def RdU (w : World) (A : Option Addr) (xs : List Int) : Prop := (xs.length ≤ 9223372036854775807 ∧ Rd w A xs.length fun j => .int .u8 (gu xs j)) ∧ ∀ j, j < xs.length → 0 ≤ gu xs j ∧ gu xs j < 256
theorem RdU.below {w w1 : World} {A : Option Addr} {xs : List Int} (h : RdU w A xs) (hb : Below w.heap.size w w1) : RdU w1 A xs := ⟨⟨h.1.1, h.1.2.below hb⟩, h.2⟩
theorem RdU.at_ {w : World} {A : Option Addr} {xs : List Int} (h : RdU w A xs) {i : Nat} (hi : i < xs.length) : ∃ ad, A = some ad ∧ w.cell? (ad.add i) = some (.int .u8 (gu xs i)) := by
  obtain ⟨ad, e, hc⟩ := h.1.2 (by omega)
  exact ⟨ad, e, hc i hi⟩
def SmallInt (n : Nat) (w : World) (e : Ending) (w' : World) : Prop := ∃ r : Nat, r < n ∧ e = .returned (.int .i64 r) ∧ w = w'
theorem small_of {n : Nat} {v : Int} {w : World} (h1 : 0 ≤ v) (h2 : v < n) : SmallInt n w (.returned (.int .i64 v)) w := ⟨v.toNat, by omega, ret_int (by omega), rfl⟩
set_option maxHeartbeats 400000 in
theorem b10At_any (A : Option Addr) (c : Nat) (xs : List Int) (i n : Nat) (w : World) (HX : RdU w A xs) (hn : 1 < n) (hn2 : n ≤ 200) (hi : i ≤ 100) :
    Calls Try.prog 18 #[.slice A xs.length c, .int .i64 i, .int .i64 n] w (SmallInt n w) := by
  have hm := HX.1.1
  have hni : ¬ (n : Int) ≤ 1 := by omega
  by_cases hlt : i < xs.length
  · have hki : (i : Int) < xs.length := by omega
    obtain ⟨ad, rfl, hc⟩ := HX.at_ hlt
    obtain ⟨b1, b2⟩ := HX.2 i hlt
    have g1 := Int.emod_nonneg (gu xs i) (show (n : Int) ≠ 0 by omega)
    have g2 := Int.emod_lt_of_pos (gu xs i) (show (0 : Int) < n by omega)
    have HS := Lib.hid (small_of (w := w) g1 g2)
    clear g1 g2
    go_enter Try.func18, Try.ntmps18
    go_wp2_with fail
    go_ret
    exact HS.out
  · have hki : ¬ (i : Int) < xs.length := by omega
    have g1 := Int.emod_nonneg ((i : Int) * 37 + 11) (show (n : Int) ≠ 0 by omega)
    have g2 := Int.emod_lt_of_pos ((i : Int) * 37 + 11) (show (0 : Int) < n by omega)
    have HS := Lib.hid (small_of (w := w) g1 g2)
    clear g1 g2
    go_enter Try.func18, Try.ntmps18
    go_wp2_with fail
    go_ret
    exact HS.out
set_option maxHeartbeats 400000 in
theorem b10Long_any (A B : Option Addr) (c d n m : Nat) (w : World) (hn : n ≤ 9223372036854775807) (hm : m ≤ 9223372036854775807) :
    Calls Try.prog 17 #[.slice A n c, .slice B m d] w fun e w' => e = .returned (.bool (decide (1048576 < n) || decide (1048576 < m))) ∧ w = w' := by
  by_cases h1 : 1048576 < n
  · have h1i : 1048576 < (n : Int) := by omega
    go_enter Try.func17, Try.ntmps17
    go_wp2_with fail
    go_ret
    exact ⟨ret_bool (by rw [decide_eq_true h1, Bool.true_or]), rfl⟩
  · have h1i : ¬ 1048576 < (n : Int) := by omega
    by_cases h2 : 1048576 < m
    · have h2i : 1048576 < (m : Int) := by omega
      go_enter Try.func17, Try.ntmps17
      go_wp2_with fail
      go_ret
      exact ⟨ret_bool (by simp), rfl⟩
    · have h2i : ¬ 1048576 < (m : Int) := by omega
      go_enter Try.func17, Try.ntmps17
      go_wp2_with fail
      go_ret
      exact ⟨rfl, rfl⟩
def quarters : Bool := (List.range 20).all fun a => floatBits .quo .f32 (floatOfInt .f32 (a : Int)) 1082130432 == some (quarter a)
theorem quarters_eq : quarters = true := by decide +kernel
theorem quarter_at {a : Nat} (h : a < 20) : floatBits .quo .f32 (floatOfInt .f32 (a : Int)) 1082130432 = some (quarter a) := by
  have := quarters_eq
  unfold quarters at this
  rw [List.all_eq_true] at this
  simpa using this a (by simpa using h)
theorem fv_quarter (W : World) {a : Nat} (h : a < 20) : fv W .quo .f32 (floatOfInt .f32 (a : Int)) 1082130432 = quarter a := by
  unfold fv
  rw [quarter_at h]
theorem fd_quarter {a : Nat} (h : a < 20) : fd .quo .f32 (floatOfInt .f32 (a : Int)) 1082130432 = 0 := by
  unfold fd
  rw [quarter_at h]
  rfl
end Go.Proofs.Ytdkkdohbmpjfdaa
