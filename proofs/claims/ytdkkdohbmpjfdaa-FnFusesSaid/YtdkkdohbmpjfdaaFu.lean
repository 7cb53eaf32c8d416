/-
  Fuses whose heat, limit and cooling are small multiples of 1/32: their runs never fail, and go on as one list.
-/
import Derived.Test.YtdkkdohbmpjfdaaWe
import Derived.Test.YtdkkdohbmpjfdaaEx
namespace Go.Proofs.Ytdkkdohbmpjfdaa
open Go.RowKit Go.Fl Go.Lb

abbrev half : Nat := 1056964608
/-- m / 32 -/
def hI (m : Nat) : Nat := dy .f32 false m (-5)
/-- a / 4, as the law makes it -/
def quarter (a : Nat) : Nat := fb .quo .f32 (floatOfInt .f32 (a : Int)) 1082130432
theorem ok32 : okPlace .f32 (-5) := by unfold okPlace; rw [fmt32.2.1]; decide
theorem lim32 {m : Nat} (h : m < 16777216) : m < 2 ^ (FloatKind.f32.format.fractionBits + 1) := by rw [fmt32.1]; exact h
theorem hI_zero : hI 0 = 0 := dy_zero _ _
theorem cn_hI (m : Nat) : cn .f32 (hI m) = hI m := cn_dy _ _ _ _
def squares : Bool := (List.range 20).all fun a => fb .mul .f32 (fb .mul .f32 (quarter a) (quarter a)) half == hI (a * a)
theorem squares_eq : squares = true := by decide +kernel
theorem square_at {a : Nat} (h : a < 20) : fb .mul .f32 (fb .mul .f32 (quarter a) (quarter a)) half = hI (a * a) := by
  have := squares_eq
  unfold squares at this
  rw [List.all_eq_true] at this
  simpa using this a (by simpa using h)
def cools : Bool := (List.range 5).all fun b => fb .mul .f32 (quarter b) half == hI (4 * b) && nearB (quarter b)
theorem cools_eq : cools = true := by decide +kernel
theorem cool_at {b : Nat} (h : b < 5) : fb .mul .f32 (quarter b) half = hI (4 * b) ∧ nearB (quarter b) = true := by
  have := cools_eq
  unfold cools at this
  rw [List.all_eq_true] at this
  simpa using this b (by simpa using h)
def heats : Bool := (List.range 6).all fun n => floatOfInt .f32 (n : Int) == hI (32 * n)
theorem heats_eq : heats = true := by decide +kernel
theorem heat_at {n : Nat} (h : n < 6) : floatOfInt .f32 (n : Int) = hI (32 * n) := by
  have := heats_eq
  unfold heats at this
  rw [List.all_eq_true] at this
  simpa using this n (by simpa using h)
def limits : Bool := (List.range 60).all fun n => floatOfInt .f32 ((10 + n : Nat) : Int) == hI (32 * (10 + n)) && plusB (hI (32 * (10 + n)))
theorem limits_eq : limits = true := by decide +kernel
theorem limit_at {n : Nat} (h : n < 60) : floatOfInt .f32 ((10 + n : Nat) : Int) = hI (32 * (10 + n)) ∧ plusB (hI (32 * (10 + n))) = true := by
  have := limits_eq
  unfold limits at this
  rw [List.all_eq_true] at this
  simpa using this n (by simpa using h)
theorem near_half : nearB half = true := by decide +kernel
theorem cn_half : cn .f32 half = half := by decide +kernel
theorem cn_quarter {a : Nat} (h : isN .f32 (quarter a) = false) : cn .f32 (quarter a) = quarter a := cn_of_not h
theorem cn_quarter' (a : Nat) : cn .f32 (quarter a) = quarter a := cn_fb _ _ _ _
theorem hI_cf {m n : Nat} (hm : m < 16777216) (hn : n < 16777216) : cf .f32 (hI m) (hI n) = some (compare (m : Int) (n : Int)) := dy_cf (lim32 hm) (lim32 hn) ok32
theorem near_hI {m : Nat} (hm : m < 16777216) : nearB (hI m) = true := by
  have h1 : fb .sub .f32 (hI m) (hI m) = hI 0 := by
    unfold hI
    rw [dy_sub (lim32 hm) (lim32 hm) ok32, if_pos (Nat.le_refl _), Nat.sub_self]
  unfold nearB fin ltz
  rw [cn_hI, h1]
  have h2 : cf .f32 (hI 0) 0 = some .eq := by
    have h := hI_cf (m := 0) (n := 0) (by omega) (by omega)
    rw [Int.compare_eq_eq.2 rfl] at h
    rw [hI_zero] at h ⊢
    exact h
  rw [h2]
  have h3 : cf .f32 (hI m) 0 = some (compare (m : Int) ((0 : Nat) : Int)) := by rw [← hI_zero]; exact hI_cf hm (by omega)
  rw [h3]
  have : compare (m : Int) ((0 : Nat) : Int) ≠ .lt := fun e => by
    have := Int.compare_eq_lt.1 e
    omega
  cases hc : compare (m : Int) ((0 : Nat) : Int) <;> simp_all
theorem geq_hI {m n : Nat} (hm : m < 16777216) (hn : n < 16777216) : geq (hI m) (hI n) = decide (n ≤ m) := by
  unfold geq
  rw [hI_cf hm hn]
  rcases Nat.lt_trichotomy m n with h | h | h
  · rw [Int.compare_eq_lt.2 (by omega), decide_eq_false (by omega)]; rfl
  · rw [Int.compare_eq_eq.2 (by omega), decide_eq_true (by omega)]; rfl
  · rw [Int.compare_eq_gt.2 (by omega), decide_eq_true (by omega)]; rfl
/-- what a step adds and takes -/
theorem heat_hI {h a k q c : Nat} (hh : h < 1000000) (ha : a < 20) (hk : k < 100) (hc : fb .mul .f32 c half = hI k) (hcn : cn .f32 c = c) (hq : q = quarter a) : heat (hI h) c q half = hI (h + a * a - k) := by
  have haa : a * a ≤ 19 * 19 := Nat.mul_le_mul (by omega) (by omega)
  have h1 : heat1 (hI h) c q half = if k ≤ h + a * a then hI (h + a * a - k) else dy .f32 true (k - (h + a * a)) (-5) := by
    unfold heat1
    rw [hq, cn_quarter', cn_half, square_at ha, hcn, hc, cn_hI]
    have e : fb .add .f32 (hI h) (hI (a * a)) = hI (h + a * a) := dy_add (lim32 (by omega)) ok32
    rw [e]
    exact dy_sub (lim32 (by omega)) (lim32 (by omega)) ok32
  unfold heat
  rw [h1]
  by_cases hle : k ≤ h + a * a
  · rw [if_pos hle]
    have := near_hI (m := h + a * a - k) (by omega)
    unfold nearB at this
    simp only [Bool.and_eq_true] at this
    have hl : ltz (hI (h + a * a - k)) = false := by simpa using this.2
    rw [hl, if_neg (by simp)]
  · rw [if_neg hle]
    have hl : ltz (dy .f32 true (k - (h + a * a)) (-5)) = true := by
      unfold ltz
      rw [dy_cf_neg (lim32 (by omega)) (by omega) ok32]
      rfl
    rw [hl, if_pos rfl, show h + a * a - k = 0 by omega, hI_zero]
theorem heatR_hI {h a k q c L : Nat} (hh : h < 1000000) (ha : a < 20) (hk : k < 100) (hc : fb .mul .f32 c half = hI k) (hcn : cn .f32 c = c) (hnc : nearB c = true) (hq : q = quarter a) (hL : L < 1000000) (hpl : plusB (hI L) = true) :
    heatR (hI h) (hI L) c q half = (hI (h + a * a - k), hI L, c, decide (L ≤ h + a * a - k), true) := by
  have haa : a * a ≤ 19 * 19 := Nat.mul_le_mul (by omega) (by omega)
  have hv : ∀ m, m < 16777216 → vfuse (hI m) (hI L) c = true := fun m hm => by
    unfold vfuse
    rw [near_hI hm, hnc, hpl]
    decide
  unfold heatR
  rw [heat_hI hh ha hk hc hcn hq, hv _ (by omega), hv _ (by omega), near_half]
  rw [geq_hI (by omega) (by omega)]
  simp only [Bool.and_self, if_true]
end Go.Proofs.Ytdkkdohbmpjfdaa
