/-
  Float operations that are exact: small whole multiples of a power of two.
-/
import Derived.Test.YtiikjnokoihhgaaFl
namespace Go.Fl
open Ieee

/-- the float that is m * 2^p, negated if neg -/
def dy (k : FloatKind) (neg : Bool) (m : Nat) (p : Int) : Nat := k.format.nearest neg m p

theorem log2_mul (m s : Nat) (h : m ≠ 0) : (m * 2 ^ s).log2 = m.log2 + s := by
  have h1 := Nat.log2_self_le h
  have h2 : m < 2 ^ (m.log2 + 1) := Nat.lt_log2_self
  have hp : 0 < 2 ^ s := Nat.two_pow_pos s
  rw [Nat.log2_eq_iff (by have := Nat.mul_ne_zero h (Nat.ne_of_gt hp); exact this)]
  constructor
  · rw [Nat.pow_add]; exact Nat.mul_le_mul_right _ h1
  · rw [show m.log2 + s + 1 = (m.log2 + 1) + s by omega, Nat.pow_add]
    exact Nat.mul_lt_mul_of_pos_right h2 hp
theorem cut_exact (neg : Bool) (n d : Nat) : Toward.even.cut neg (n * 2 ^ d) d = n := by
  unfold Toward.cut
  dsimp only
  rcases Nat.eq_zero_or_pos n with h | h
  · subst h
    simp
  · have hg : min d ((n * 2 ^ d).log2 + 2) = d := by
      rw [log2_mul n d (by omega)]
      omega
    rw [hg, Nat.one_shiftLeft]
    have hp : 0 < 2 ^ d := Nat.two_pow_pos d
    rw [Nat.mul_div_cancel n hp, Nat.mul_mod_left]
    simp
section
variable {f : Format}
theorem nearest_shift (neg : Bool) (m s : Nat) (p : Int) (hm : m < 2 ^ (f.fractionBits + 1)) (hp : f.leastPlace ≤ p) : f.nearest neg (m * 2 ^ s) (p - s) = f.nearest neg m p := by
  unfold Format.nearest
  by_cases h : m = 0
  · subst h; simp
  · have hs : m * 2 ^ s ≠ 0 := Nat.mul_ne_zero h (Nat.ne_of_gt (Nat.two_pow_pos s))
    rw [if_neg h, if_neg hs]
    dsimp only
    rw [log2_mul m s h]
    have hl : m.log2 < f.fractionBits + 1 := (Nat.log2_lt h).2 hm
    rw [show (p - (s : Int) + ((m.log2 + s : Nat) : Int) - (f.fractionBits : Int)) = p + (m.log2 : Int) - f.fractionBits by omega]
    generalize hL : max (p + (m.log2 : Int) - (f.fractionBits : Int)) f.leastPlace = last
    have hlast : last ≤ p := by omega
    have h0 : (last - p).toNat = 0 := by omega
    rw [h0, cut_zero]
    congr 2
    congr 1
    generalize hD : (p - last).toNat = D
    by_cases hsD : s ≤ D
    · rw [show (p - (s : Int) - last).toNat = D - s by omega, show (last - (p - (s : Int))).toNat = 0 by omega, cut_zero, Nat.shiftLeft_eq, Nat.shiftLeft_eq, Nat.mul_assoc, ← Nat.pow_add]
      congr 2
      omega
    · rw [show (p - (s : Int) - last).toNat = 0 by omega, show (last - (p - (s : Int))).toNat = s - D by omega, Nat.shiftLeft_eq, Nat.shiftLeft_eq, Nat.pow_zero, Nat.mul_one]
      have : m * 2 ^ s = m * 2 ^ D * 2 ^ (s - D) := by
        rw [Nat.mul_assoc, ← Nat.pow_add]
        congr 2
        omega
      rw [this, cut_exact]
theorem word_sign (neg : Bool) {r : Nat} (h : r < f.signWeight) : (f.word neg r / f.signWeight % 2 == 1) = neg := by
  have hp : 0 < f.signWeight := Nat.two_pow_pos _
  unfold Format.word
  cases neg with
  | true =>
    rw [if_pos rfl, Nat.add_div_left _ hp, Nat.div_eq_of_lt h]
    rfl
  | false =>
    rw [if_neg (by simp), Nat.div_eq_of_lt h]
    rfl
end
theorem fmt32 : FloatKind.f32.format.fractionBits = 23 ∧ FloatKind.f32.format.leastPlace = -149 ∧ FloatKind.f32.format.binade = 2 ^ 23 ∧ FloatKind.f32.format.infRung = 255 * 2 ^ 23 := by decide +kernel
theorem fmt64 : FloatKind.f64.format.fractionBits = 52 ∧ FloatKind.f64.format.leastPlace = -1074 ∧ FloatKind.f64.format.binade = 2 ^ 52 ∧ FloatKind.f64.format.infRung = 2047 * 2 ^ 52 := by decide +kernel
/-- how far a place may lie above the lowest -/
def topP : FloatKind → Nat
  | .f32 => 250
  | .f64 => 2000
theorem fmtAll (k : FloatKind) : k.format.binade = 2 ^ k.format.fractionBits ∧ (topP k + 5) * k.format.binade ≤ k.format.infRung := by cases k <;> decide +kernel
/-- what is read of an exact number -/
theorem dy_read (k : FloatKind) (neg : Bool) (m : Nat) (p : Int) (hm : m < 2 ^ (k.format.fractionBits + 1)) (hp : k.format.leastPlace ≤ p) (hq : p ≤ k.format.leastPlace + topP k) :
    ∃ a : Nat, k.format.read (dy k neg m p) = .number neg (m * 2 ^ a) (p - a) := by
  obtain ⟨hb, hi⟩ := fmtAll k
  have hinf := k.format.infRung_lt
  unfold dy Format.nearest
  by_cases h : m = 0
  · subst h
    rw [if_pos rfl]
    have hbp : 0 < k.format.binade := by rw [hb]; exact Nat.two_pow_pos _
    have h0 : (0 : Nat) < k.format.signWeight := by
      rw [Nat.add_mul] at hi
      omega
    refine ⟨(p - k.format.leastPlace).toNat, ?_⟩
    unfold Format.read
    dsimp only
    rw [word_sign neg h0, word_mod _ _ h0, if_pos hbp]
    congr 1
    · simp
    · omega
  · rw [if_neg h]
    dsimp only
    have hl : m.log2 < k.format.fractionBits + 1 := (Nat.log2_lt h).2 hm
    generalize hfb : k.format.fractionBits = fb at *
    generalize hlp : k.format.leastPlace = lp at *
    generalize hL : max (p + (m.log2 : Int) - (fb : Int)) lp = last
    have hlast : last ≤ p := by omega
    have h0 : (last - p).toNat = 0 := by omega
    rw [h0, cut_zero, Nat.shiftLeft_eq]
    generalize hD : (p - last).toNat = D
    have h1 : 2 ^ m.log2 ≤ m := Nat.log2_self_le h
    have h2 : m < 2 ^ (m.log2 + 1) := Nat.lt_log2_self
    have hub : m * 2 ^ D < 2 * k.format.binade := by
      have hDl : m.log2 + D ≤ fb := by omega
      calc m * 2 ^ D < 2 ^ (m.log2 + 1) * 2 ^ D := Nat.mul_lt_mul_of_pos_right h2 (Nat.two_pow_pos D)
        _ = 2 ^ (m.log2 + 1 + D) := by rw [← Nat.pow_add]
        _ ≤ 2 ^ (fb + 1) := Nat.pow_le_pow_right (by decide) (by omega)
        _ = 2 * k.format.binade := by rw [hb, Nat.pow_succ]; omega
    have hlow : lp < last → k.format.binade ≤ m * 2 ^ D := fun hlt => by
      have hDe : m.log2 + D = fb := by omega
      calc k.format.binade = 2 ^ (m.log2 + D) := by rw [hb, hDe]
        _ = 2 ^ m.log2 * 2 ^ D := by rw [Nat.pow_add]
        _ ≤ m * 2 ^ D := Nat.mul_le_mul_right _ h1
    generalize hK : m * 2 ^ D = K at *
    generalize hLL : (last - lp).toNat = L at *
    have hLb : L ≤ topP k := by omega
    have hbp : 0 < k.format.binade := by rw [hb]; exact Nat.two_pow_pos _
    generalize hB : k.format.binade = Bn at *
    have hr : L * Bn + K < k.format.infRung := by
      have : L * Bn ≤ topP k * Bn := Nat.mul_le_mul_right _ hLb
      rw [Nat.add_mul] at hi
      omega
    rw [Nat.min_eq_left (Nat.le_of_lt hr)]
    refine ⟨D, ?_⟩
    rw [hK]
    unfold Format.read
    dsimp only
    have hrs : L * Bn + K < k.format.signWeight := Nat.lt_trans hr hinf
    rw [word_sign neg hrs, word_mod _ _ hrs, hB, hlp]
    by_cases hsub : L * Bn + K < Bn
    · rw [if_pos hsub]
      have hL0 : L = 0 := by
        rcases Nat.eq_zero_or_pos L with h' | h'
        · exact h'
        · have := Nat.mul_le_mul_right Bn h'
          omega
      subst hL0
      congr 1
      · omega
      · omega
    · rw [if_neg hsub, if_pos hr]
      have hKB : Bn ≤ K := by
        rcases Nat.eq_zero_or_pos L with h' | h'
        · subst h'; omega
        · exact hlow (by omega)
      have e1 : L * Bn + K = (K - Bn) + (L + 1) * Bn := by
        rw [Nat.add_mul, Nat.one_mul]
        omega
      have e2 : (L * Bn + K) % Bn = K - Bn := by
        rw [e1, Nat.add_mul_mod_self_right, Nat.mod_eq_of_lt (by omega)]
      have e3 : (L * Bn + K) / Bn = L + 1 := by
        rw [e1, Nat.add_mul_div_right _ _ hbp, Nat.div_eq_of_lt (by omega)]
        omega
      rw [e2, e3]
      congr 1
      · omega
      · omega

/-- a place that is neither too low nor too high -/
def okPlace (k : FloatKind) (p : Int) : Prop := k.format.leastPlace ≤ p ∧ p ≤ k.format.leastPlace + topP k
theorem dy_zero (k : FloatKind) (p : Int) : dy k false 0 p = 0 := by
  unfold dy Format.nearest Format.word
  simp
theorem isN_dy (k : FloatKind) (neg : Bool) (m : Nat) (p : Int) : isN k (dy k neg m p) = false := isN_write k (d := .number neg m p) rfl
theorem cn_dy (k : FloatKind) (neg : Bool) (m : Nat) (p : Int) : cn k (dy k neg m p) = dy k neg m p := cn_of_not (isN_dy k neg m p)
theorem dy_mul {k : FloatKind} {m n : Nat} {p q : Int} (hm : m < 2 ^ (k.format.fractionBits + 1)) (hn : n < 2 ^ (k.format.fractionBits + 1)) (hmn : m * n < 2 ^ (k.format.fractionBits + 1))
    (hp : okPlace k p) (hq : okPlace k q) (hpq : k.format.leastPlace ≤ p + q) : fb .mul k (dy k false m p) (dy k false n q) = dy k false (m * n) (p + q) := by
  obtain ⟨a, ha⟩ := dy_read k false m p hm hp.1 hp.2
  obtain ⟨b, hb⟩ := dy_read k false n q hn hq.1 hq.2
  have h : floatBits .mul k (dy k false m p) (dy k false n q) = some (dy k false (m * n) (p + q)) := by
    show k.format.mul _ _ = _
    unfold Format.mul
    rw [ha, hb]
    show (some (Datum.number (false ^^ false) (m * 2 ^ a * (n * 2 ^ b)) (p - a + (q - b)))).map k.format.write = _
    rw [Option.map_some]
    congr 1
    show k.format.nearest false _ _ = k.format.nearest false _ _
    rw [show m * 2 ^ a * (n * 2 ^ b) = m * n * 2 ^ (a + b) by rw [Nat.pow_add, Nat.mul_assoc, Nat.mul_assoc, Nat.mul_left_comm (2 ^ a) n], show p - (a : Int) + (q - (b : Int)) = p + q - ((a + b : Nat) : Int) by omega]
    exact nearest_shift false _ _ _ hmn hpq
  unfold fb
  rw [h]
  rfl
theorem shiftLeft_two (m a s : Nat) : (m * 2 ^ a) <<< s = m * 2 ^ (a + s) := by rw [Nat.shiftLeft_eq, Nat.mul_assoc, ← Nat.pow_add]
theorem dy_add {k : FloatKind} {m n : Nat} {p : Int} (hmn : m + n < 2 ^ (k.format.fractionBits + 1)) (hp : okPlace k p) : fb .add k (dy k false m p) (dy k false n p) = dy k false (m + n) p := by
  obtain ⟨a, ha⟩ := dy_read k false m p (by omega) hp.1 hp.2
  obtain ⟨b, hb⟩ := dy_read k false n p (by omega) hp.1 hp.2
  have h : floatBits .add k (dy k false m p) (dy k false n p) = some (dy k false (m + n) p) := by
    show k.format.add _ _ = _
    unfold Format.add
    rw [ha, hb]
    unfold Datum.sum signed
    dsimp only
    rw [Option.map_some]
    congr 1
    simp only [Bool.false_eq_true, if_false, Bool.and_false]
    obtain ⟨c, hc⟩ : ∃ c : Nat, min (p - (a : Int)) (p - (b : Int)) = p - c ∧ a ≤ c ∧ b ≤ c := ⟨max a b, by omega, by omega, by omega⟩
    rw [hc.1, show (p - (a : Int) - (p - (c : Int))).toNat = c - a by omega, show (p - (b : Int) - (p - (c : Int))).toNat = c - b by omega, shiftLeft_two, shiftLeft_two, show a + (c - a) = c by omega, show b + (c - b) = c by omega]
    have e1 : (((m * 2 ^ c : Nat) : Int) + ((n * 2 ^ c : Nat) : Int)) = (((m + n) * 2 ^ c : Nat) : Int) := by rw [Nat.add_mul]; omega
    rw [e1, Int.natAbs_natCast]
    have e2 : (if (((m + n) * 2 ^ c : Nat) : Int) = 0 then false else decide ((((m + n) * 2 ^ c : Nat) : Int) < 0)) = false := by
      split
      · rfl
      · exact decide_eq_false (Int.not_lt.2 (Int.natCast_nonneg _))
    rw [e2]
    exact nearest_shift false _ _ _ hmn hp.1
  unfold fb
  rw [h]
  rfl
theorem dy_sub {k : FloatKind} {m n : Nat} {p : Int} (hm : m < 2 ^ (k.format.fractionBits + 1)) (hn : n < 2 ^ (k.format.fractionBits + 1)) (hp : okPlace k p) :
    fb .sub k (dy k false m p) (dy k false n p) = if n ≤ m then dy k false (m - n) p else dy k true (n - m) p := by
  obtain ⟨a, ha⟩ := dy_read k false m p hm hp.1 hp.2
  obtain ⟨b, hb⟩ := dy_read k false n p hn hp.1 hp.2
  have h : floatBits .sub k (dy k false m p) (dy k false n p) = some (if n ≤ m then dy k false (m - n) p else dy k true (n - m) p) := by
    show k.format.sub _ _ = _
    unfold Format.sub
    rw [ha, hb]
    unfold Datum.opposite Datum.sum signed
    dsimp only
    rw [Option.map_some]
    congr 1
    simp only [Bool.false_eq_true, if_false, Bool.not_false, if_true, Bool.false_and]
    obtain ⟨c, hc⟩ : ∃ c : Nat, min (p - (a : Int)) (p - (b : Int)) = p - c ∧ a ≤ c ∧ b ≤ c := ⟨max a b, by omega, by omega, by omega⟩
    rw [hc.1, show (p - (a : Int) - (p - (c : Int))).toNat = c - a by omega, show (p - (b : Int) - (p - (c : Int))).toNat = c - b by omega, shiftLeft_two, shiftLeft_two, show a + (c - a) = c by omega, show b + (c - b) = c by omega]
    have hpc : 0 < 2 ^ c := Nat.two_pow_pos c
    by_cases hle : n ≤ m
    · have hle' := Nat.mul_le_mul_right (2 ^ c) hle
      have e1 : (((m * 2 ^ c : Nat) : Int) + -((n * 2 ^ c : Nat) : Int)) = (((m - n) * 2 ^ c : Nat) : Int) := by rw [Nat.sub_mul]; omega
      rw [e1, Int.natAbs_natCast, if_pos hle]
      have e2 : (if (((m - n) * 2 ^ c : Nat) : Int) = 0 then false else decide ((((m - n) * 2 ^ c : Nat) : Int) < 0)) = false := by
        split
        · rfl
        · exact decide_eq_false (Int.not_lt.2 (Int.natCast_nonneg _))
      rw [e2]
      exact nearest_shift false _ _ _ (by omega) hp.1
    · have hlt : m * 2 ^ c < n * 2 ^ c := Nat.mul_lt_mul_of_pos_right (by omega) hpc
      have e1 : (((m * 2 ^ c : Nat) : Int) + -((n * 2 ^ c : Nat) : Int)) = -(((n - m) * 2 ^ c : Nat) : Int) := by rw [Nat.sub_mul]; omega
      have hpos : 0 < (n - m) * 2 ^ c := Nat.mul_pos (by omega) hpc
      rw [e1, Int.natAbs_neg, Int.natAbs_natCast, if_neg hle]
      have e2 : (if -(((n - m) * 2 ^ c : Nat) : Int) = 0 then false else decide (-(((n - m) * 2 ^ c : Nat) : Int) < 0)) = true := by
        have hpi : (0 : Int) < (((n - m) * 2 ^ c : Nat) : Int) := Int.natCast_pos.2 hpos
        generalize (((n - m) * 2 ^ c : Nat) : Int) = K at hpi
        rw [if_neg (by omega)]
        exact decide_eq_true (by omega)
      rw [e2]
      exact nearest_shift true _ _ _ (by omega) hp.1
  unfold fb
  rw [h]
  rfl
theorem mul_compare (m n c : Nat) : compare ((m * 2 ^ c : Nat) : Int) ((n * 2 ^ c : Nat) : Int) = compare (m : Int) (n : Int) := by
  have hpc : 0 < 2 ^ c := Nat.two_pow_pos c
  rcases Nat.lt_trichotomy m n with h | h | h
  · have := Nat.mul_lt_mul_of_pos_right h hpc
    rw [Int.compare_eq_lt.2 (by omega), Int.compare_eq_lt.2 (by omega)]
  · subst h
    rw [Int.compare_eq_eq.2 rfl, Int.compare_eq_eq.2 rfl]
  · have := Nat.mul_lt_mul_of_pos_right h hpc
    rw [Int.compare_eq_gt.2 (by omega), Int.compare_eq_gt.2 (by omega)]
theorem dy_cf {k : FloatKind} {m n : Nat} {p : Int} (hm : m < 2 ^ (k.format.fractionBits + 1)) (hn : n < 2 ^ (k.format.fractionBits + 1)) (hp : okPlace k p) : cf k (dy k false m p) (dy k false n p) = some (compare (m : Int) (n : Int)) := by
  obtain ⟨a, ha⟩ := dy_read k false m p hm hp.1 hp.2
  obtain ⟨b, hb⟩ := dy_read k false n p hn hp.1 hp.2
  rw [cf_eq]
  unfold Format.order
  rw [ha, hb]
  unfold Datum.order signed
  dsimp only
  simp only [Bool.false_eq_true, if_false]
  obtain ⟨c, hc⟩ : ∃ c : Nat, min (p - (a : Int)) (p - (b : Int)) = p - c ∧ a ≤ c ∧ b ≤ c := ⟨max a b, by omega, by omega, by omega⟩
  rw [hc.1, show (p - (a : Int) - (p - (c : Int))).toNat = c - a by omega, show (p - (b : Int) - (p - (c : Int))).toNat = c - b by omega, shiftLeft_two, shiftLeft_two, show a + (c - a) = c by omega, show b + (c - b) = c by omega, mul_compare]
theorem dy_cf_neg {k : FloatKind} {m : Nat} {p : Int} (hm : m < 2 ^ (k.format.fractionBits + 1)) (h0 : 0 < m) (hp : okPlace k p) : cf k (dy k true m p) 0 = some .lt := by
  obtain ⟨a, ha⟩ := dy_read k true m p hm hp.1 hp.2
  obtain ⟨b, hb⟩ := dy_read k false 0 p (Nat.two_pow_pos _) hp.1 hp.2
  rw [cf_eq, ← dy_zero k p]
  unfold Format.order
  rw [ha, hb]
  unfold Datum.order signed
  dsimp only
  simp only [Bool.false_eq_true, if_false, if_true]
  have h1 : 0 < (m * 2 ^ a) <<< (p - (a : Int) - min (p - (a : Int)) (p - (b : Int))).toNat := by
    rw [Nat.shiftLeft_eq]
    exact Nat.mul_pos (Nat.mul_pos h0 (Nat.two_pow_pos _)) (Nat.two_pow_pos _)
  simp only [Nat.zero_mul, Nat.zero_shiftLeft, Option.some.injEq]
  rw [Int.compare_eq_lt]
  omega
end Go.Fl
