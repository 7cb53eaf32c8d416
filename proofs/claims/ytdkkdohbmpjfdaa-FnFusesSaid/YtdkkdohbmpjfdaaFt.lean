/-
  The order of floats is transitive.
-/
import Derived.Test.YtdkkdohbmpjfdaaFl
namespace Go.Fl
open Ieee

theorem signed_scale (s : Bool) (m p q : Nat) : signed s m (p + q) = signed s m p * ((2 ^ q : Nat) : Int) := by
  unfold signed
  rw [Nat.shiftLeft_eq, Nat.shiftLeft_eq, Nat.pow_add, ← Nat.mul_assoc]
  cases s <;> simp [Int.neg_mul]
theorem num_lt {s t : Bool} {m n : Nat} {i j : Int} (c : Int) (h1 : c ≤ i) (h2 : c ≤ j) :
    Datum.order (.number s m i) (.number t n j) = some .lt ↔ signed s m (i - c).toNat < signed t n (j - c).toNat := by
  have e1 : (i - c).toNat = (i - min i j).toNat + (min i j - c).toNat := by omega
  have e2 : (j - c).toNat = (j - min i j).toNat + (min i j - c).toNat := by omega
  have hp : (0 : Int) < ((2 ^ (min i j - c).toNat : Nat) : Int) := by
    have : 0 < 2 ^ (min i j - c).toNat := Nat.two_pow_pos _
    omega
  rw [e1, e2, signed_scale, signed_scale]
  simp only [Datum.order, Option.some.injEq]
  rw [Int.compare_eq_lt]
  exact ⟨fun h => Int.mul_lt_mul_of_pos_right h hp, fun h => Int.lt_of_mul_lt_mul_right h (Int.le_of_lt hp)⟩
theorem datum_trans {x y z : Datum} (h1 : x.order y = some .lt) (h2 : y.order z = some .lt) : x.order z = some .lt := by
  cases x with
  | nan s t => cases h1
  | infinity s =>
    cases y with
    | nan t u => cases h1
    | infinity t =>
      cases s <;> cases t <;> simp [Datum.order, compare, compareOfLessAndEq] at h1
      cases z with
      | nan u v => cases h2
      | infinity u => cases u <;> simp [Datum.order, compare, compareOfLessAndEq] at h2
      | number u p l => simp [Datum.order] at h2
    | number t n j =>
      cases s <;> simp [Datum.order] at h1
      cases z with
      | nan u v => cases h2
      | infinity u => cases u <;> simp [Datum.order] at h2; rfl
      | number u p l => rfl
  | number s m i =>
    cases y with
    | nan t u => cases h1
    | infinity t =>
      cases t <;> simp [Datum.order] at h1
      cases z with
      | nan u v => cases h2
      | infinity u => cases u <;> simp [Datum.order, compare, compareOfLessAndEq] at h2
      | number u p l => simp [Datum.order] at h2
    | number t n j =>
      cases z with
      | nan u v => cases h2
      | infinity u => cases u <;> simp [Datum.order] at h2; rfl
      | number u p l =>
        have c1 : min i (min j l) ≤ i := by omega
        have c2 : min i (min j l) ≤ j := by omega
        have c3 : min i (min j l) ≤ l := by omega
        rw [num_lt (min i (min j l)) c1 c2] at h1
        rw [num_lt (min i (min j l)) c2 c3] at h2
        rw [num_lt (min i (min j l)) c1 c3]
        omega
theorem cf_trans {k : FloatKind} {a b c : Nat} (h1 : cf k a b = some .lt) (h2 : cf k b c = some .lt) : cf k a c = some .lt := by
  unfold cf Format.order at *
  exact datum_trans h1 h2
end Go.Fl
