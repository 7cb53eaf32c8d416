/-
  A quotient of two whole numbers, narrowed to float32, is no infinity.
-/
import Derived.Test.YtiikjnokoihhgaaEx
namespace Go.Fl
open Ieee

theorem cut_le (neg : Bool) (n d B : Nat) (hB : n < B * 2 ^ d) : Toward.even.cut neg n d ≤ B := by
  unfold Toward.cut
  dsimp only
  rw [Nat.one_shiftLeft]
  have hp : 0 < 2 ^ min d (n.log2 + 2) := Nat.two_pow_pos _
  have hlt : n / 2 ^ min d (n.log2 + 2) < B := by
    by_cases h : d ≤ n.log2 + 2
    · rw [Nat.min_eq_left h]
      exact Nat.div_lt_of_lt_mul (by rw [Nat.mul_comm]; exact hB)
    · rw [Nat.min_eq_right (by omega)]
      have h1 : n < 2 ^ (n.log2 + 1) := Nat.lt_log2_self
      have h2 : (2 : Nat) ^ (n.log2 + 1) ≤ 2 ^ (n.log2 + 2) := Nat.pow_le_pow_right (by decide) (by omega)
      rw [Nat.div_eq_of_lt (by omega)]
      rcases Nat.eq_zero_or_pos B with h0 | h0
      · subst h0; simp at hB
      · exact h0
  generalize n / 2 ^ min d (n.log2 + 2) = x at *
  generalize (decide (2 ^ min d (n.log2 + 2) < 2 * (n % 2 ^ min d (n.log2 + 2))) || 2 ^ min d (n.log2 + 2) == 2 * (n % 2 ^ min d (n.log2 + 2)) && x % 2 == 1) = b
  cases b
  · show x + 0 ≤ B; omega
  · show x + 1 ≤ B; omega
/-- how high a number's rung is at most -/
theorem nearest_rung (f : Format) (neg : Bool) (m : Nat) (p E : Int) (hE : m ≠ 0 → p + m.log2 ≤ E) (hl : f.leastPlace ≤ E - f.fractionBits) :
    ∃ r, f.nearest neg m p = f.word neg r ∧ r ≤ (E - f.fractionBits - f.leastPlace).toNat * f.binade + 2 * f.binade := by
  unfold Format.nearest
  by_cases h : m = 0
  · rw [if_pos h]
    exact ⟨0, rfl, Nat.zero_le _⟩
  · rw [if_neg h]
    dsimp only
    have hE' := hE h
    have h2 : m < 2 ^ (m.log2 + 1) := Nat.lt_log2_self
    generalize hlog : m.log2 = lg at *
    generalize hlast : max (p + (lg : Int) - (f.fractionBits : Int)) f.leastPlace = last
    refine ⟨_, rfl, Nat.le_trans (Nat.min_le_left _ _) ?_⟩
    have hL : (last - f.leastPlace).toNat ≤ (E - f.fractionBits - f.leastPlace).toNat := by omega
    have hc : Toward.even.cut neg (m <<< (p - last).toNat) (last - p).toNat ≤ 2 * f.binade := by
      apply cut_le
      rw [Nat.shiftLeft_eq]
      have hbin : 2 * f.binade = 2 ^ (f.fractionBits + 1) := by unfold Format.binade; rw [Nat.pow_succ]; omega
      rw [hbin, ← Nat.pow_add]
      calc m * 2 ^ (p - last).toNat < 2 ^ (lg + 1) * 2 ^ (p - last).toNat := Nat.mul_lt_mul_of_pos_right h2 (Nat.two_pow_pos _)
        _ = 2 ^ (lg + 1 + (p - last).toNat) := by rw [← Nat.pow_add]
        _ ≤ 2 ^ (f.fractionBits + 1 + (last - p).toNat) := Nat.pow_le_pow_right (by decide) (by omega)
    have := Nat.mul_le_mul_right f.binade hL
    omega
theorem log2_of_lt {n k : Nat} (h : n < 2 ^ (k + 1)) : n = 0 ∨ n.log2 ≤ k := by
  rcases Nat.eq_zero_or_pos n with h0 | h0
  · exact .inl h0
  · have := (Nat.log2_lt (by omega)).2 h
    exact .inr (by omega)
/-- what is read of a low rung -/
theorem read_low (neg : Bool) {r : Nat} (h : r ≤ 1063 * 2 ^ 52) : ∃ m p, FloatKind.f64.format.read (FloatKind.f64.format.word neg r) = .number neg m p ∧ (m ≠ 0 → p + m.log2 ≤ 41) := by
  obtain ⟨h1, h2, h3, h4⟩ := fmt64
  have hrs : r < FloatKind.f64.format.signWeight := by
    have := FloatKind.f64.format.infRung_lt
    rw [h4] at this
    omega
  unfold Format.read
  dsimp only
  rw [word_sign neg hrs, word_mod _ _ hrs, h2, h3, h4]
  by_cases hs : r < 2 ^ 52
  · rw [if_pos hs]
    refine ⟨_, _, rfl, fun h0 => ?_⟩
    rcases log2_of_lt (n := r) (k := 51) (by omega) with h' | h'
    · exact absurd h' h0
    · omega
  · rw [if_neg hs, if_pos (by omega)]
    refine ⟨_, _, rfl, fun h0 => ?_⟩
    rcases log2_of_lt (n := 2 ^ 52 + r % 2 ^ 52) (k := 52) (by omega) with h' | h'
    · exact absurd h' h0
    · have hd : r / 2 ^ 52 ≤ 1063 := by omega
      omega
theorem narrow_fin {neg : Bool} {m : Nat} {p : Int} (h : m ≠ 0 → p + m.log2 ≤ 38) : ∃ s m' p', FloatKind.f64.format.read (FloatKind.f64.format.write (.number neg m p)) = .number s m' p' ∧ (FloatKind.f32.format.read (FloatKind.f32.format.write (.number s m' p'))).isInfinity = false := by
  obtain ⟨h1, h2, h3, h4⟩ := fmt64
  obtain ⟨g1, g2, g3, g4⟩ := fmt32
  obtain ⟨r, hr, hb⟩ := nearest_rung FloatKind.f64.format neg m p 38 h (by rw [h1, h2]; decide)
  rw [h1, h2, h3, show ((38 : Int) - ((52 : Nat) : Int) - -1074).toNat = 1060 by decide] at hb
  obtain ⟨m', p', hread, hm'⟩ := read_low neg (r := r) (by omega)
  refine ⟨neg, m', p', ?_, ?_⟩
  · show FloatKind.f64.format.read (FloatKind.f64.format.nearest neg m p) = _
    rw [hr, hread]
  · obtain ⟨r', hr', hb'⟩ := nearest_rung FloatKind.f32.format neg m' p' 41 hm' (by rw [g1, g2]; decide)
    rw [g1, g2, g3, show ((41 : Int) - ((23 : Nat) : Int) - -149).toNat = 167 by decide] at hb'
    show (FloatKind.f32.format.read (FloatKind.f32.format.nearest neg m' p')).isInfinity = false
    rw [hr']
    exact read_word .f32 _ (by rw [g4]; omega)
/-- a whole number as a float64 -/
def fI (n : Nat) : Nat := dy .f64 false n 0
theorem fI_of (n : Nat) : floatOfInt .f64 (n : Int) = fI n := by
  unfold floatOfInt FloatKind.nearest fI dy
  rw [decide_eq_false (show ¬ (n : Int) < 0 by omega), Int.natAbs_natCast]
  rfl
theorem ok64 : okPlace .f64 0 := by unfold okPlace; rw [fmt64.2.1]; decide
theorem lim64 {n : Nat} (h : n < 9007199254740992) : n < 2 ^ (FloatKind.f64.format.fractionBits + 1) := by rw [fmt64.1]; exact h
theorem fI_quo {a b : Nat} (ha : a < 2 ^ 38) (hb : b < 9007199254740992) (h0 : 0 < b) : ∃ q, floatBits .quo .f64 (fI a) (fI b) = some q ∧ ∃ s m p, FloatKind.f64.format.read q = .number s m p ∧ (FloatKind.f32.format.read (FloatKind.f32.format.write (.number s m p))).isInfinity = false := by
  obtain ⟨x, hx⟩ := dy_read .f64 false a 0 (lim64 (by omega)) ok64.1 ok64.2
  obtain ⟨y, hy⟩ := dy_read .f64 false b 0 (lim64 hb) ok64.1 ok64.2
  have hbp : 0 < b * 2 ^ y := Nat.mul_pos h0 (Nat.two_pow_pos y)
  have hq : ∃ m p, (Datum.number false (a * 2 ^ x) (0 - (x : Int))).quotient (FloatKind.f64.format.fractionBits + 2) (Datum.number false (b * 2 ^ y) (0 - (y : Int))) = some (.number false m p) ∧ (m ≠ 0 → p + m.log2 ≤ 38) := by
    unfold Datum.quotient
    dsimp only
    rw [if_neg (by omega)]
    by_cases hla : a = 0
    · subst hla
      exact ⟨_, _, rfl, fun hne => absurd (by simp) hne⟩
    have l1 : (a * 2 ^ x).log2 = a.log2 + x := log2_mul a x hla
    have l2 : (b * 2 ^ y).log2 = b.log2 + y := log2_mul b y (by omega)
    have la : a.log2 < 38 := (Nat.log2_lt hla).2 ha
    have hlt1 : a * 2 ^ x < 2 ^ (a.log2 + x + 1) := by rw [← l1]; exact Nat.lt_log2_self
    have hle2 : 2 ^ (b.log2 + y) ≤ b * 2 ^ y := by rw [← l2]; exact Nat.log2_self_le (by omega)
    rw [l1, l2]
    generalize hmore : FloatKind.f64.format.fractionBits + 2 + (b.log2 + y) - (a.log2 + x) = more
    rw [Nat.shiftLeft_eq]
    have hms : b.log2 + y ≤ a.log2 + x + 1 + more := by omega
    have hdl : a * 2 ^ x * 2 ^ more / (b * 2 ^ y) < 2 ^ (a.log2 + x + 1 + more - (b.log2 + y)) := by
      apply Nat.div_lt_of_lt_mul
      calc a * 2 ^ x * 2 ^ more < 2 ^ (a.log2 + x + 1) * 2 ^ more := Nat.mul_lt_mul_of_pos_right hlt1 (Nat.two_pow_pos _)
        _ = 2 ^ (b.log2 + y) * 2 ^ (a.log2 + x + 1 + more - (b.log2 + y)) := by rw [← Nat.pow_add, ← Nat.pow_add]; congr 1; omega
        _ ≤ b * 2 ^ y * 2 ^ (a.log2 + x + 1 + more - (b.log2 + y)) := Nat.mul_le_mul_right _ hle2
    generalize a * 2 ^ x * 2 ^ more / (b * 2 ^ y) = D at hdl ⊢
    have hone : ∀ c : Bool, c.toNat ≤ 1 := fun c => by cases c <;> decide
    have h1 := hone (a * 2 ^ x * 2 ^ more % (b * 2 ^ y) != 0)
    generalize (a * 2 ^ x * 2 ^ more % (b * 2 ^ y) != 0).toNat = one at h1 ⊢
    refine ⟨_, _, rfl, fun hne => ?_⟩
    have hlq : 2 * D + one < 2 ^ (a.log2 + x + 1 + more - (b.log2 + y) + 1) := by rw [Nat.pow_succ]; omega
    have := (Nat.log2_lt hne).2 hlq
    omega
  obtain ⟨m, p, hq1, hq2⟩ := hq
  obtain ⟨s, m', p', e1, e2⟩ := narrow_fin (neg := false) hq2
  refine ⟨FloatKind.f64.format.write (.number false m p), ?_, s, m', p', e1, e2⟩
  show FloatKind.f64.format.div _ _ = _
  unfold Format.div fI
  rw [hx, hy, hq1]
  rfl
end Go.Fl
