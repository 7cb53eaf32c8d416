/-
  The time of a curve at a current: the plain part.
-/
import Derived.Test.YtdkkdohbmpjfdaaCv
import Derived.Test.YtdkkdohbmpjfdaaFt
namespace Go.Proofs.Ytdkkdohbmpjfdaa
open Go.RowKit Go.Fl Go.Lb

def ltB (a b : Nat) : Bool := cf .f32 a b == some .lt
/-- between two points of a curve -/
def interp (u v s t cur : Nat) : Nat :=
  fb .add .f32 (cn .f32 s) (fb .mul .f32 (fb .sub .f32 (cn .f32 t) (cn .f32 s)) (fb .quo .f32 (fb .sub .f32 (cn .f32 cur) (cn .f32 u)) (fb .sub .f32 (cn .f32 v) (cn .f32 u))))
def hit (xs : List Nat) (cur i : Nat) : Bool := decide (1 ≤ i) && ltB cur (ge xs i)
/-- the time at a current, up to which NaN it is -/
def timeR (xs ts : List Nat) (cur : Nat) : Nat × Bool :=
  if geB cur (ge xs 0) then
    match (List.range xs.length).find? (hit xs cur) with
    | some i => (interp (ge xs (i - 1)) (ge xs i) (ge ts (i - 1)) (ge ts i) cur, true)
    | none => (cn .f32 (ge ts (xs.length - 1)), true)
  else (0, false)
theorem timeR_low {xs ts : List Nat} {cur : Nat} (h : geB cur (ge xs 0) = false) : timeR xs ts cur = (0, false) := by
  unfold timeR; rw [h]; rfl
theorem timeR_hit {xs ts : List Nat} {cur k : Nat} (h : geB cur (ge xs 0) = true) (hk1 : 1 ≤ k) (hk : k < xs.length) (hno : ∀ j, 1 ≤ j → j < k → ltB cur (ge xs j) = false) (hy : ltB cur (ge xs k) = true) :
    timeR xs ts cur = (interp (ge xs (k - 1)) (ge xs k) (ge ts (k - 1)) (ge ts k) cur, true) := by
  unfold timeR
  rw [h, if_pos rfl]
  have : (List.range xs.length).find? (hit xs cur) = some k := by
    rw [List.find?_range_eq_some]
    refine ⟨by simp [hit, hk1, hy], by simpa using hk, fun j hj => ?_⟩
    unfold hit
    by_cases h1 : 1 ≤ j
    · rw [hno j h1 hj]; simp
    · simp [h1]
  rw [this]
theorem timeR_end {xs ts : List Nat} {cur : Nat} (h : geB cur (ge xs 0) = true) (hno : ∀ j, 1 ≤ j → j < xs.length → ltB cur (ge xs j) = false) :
    timeR xs ts cur = (cn .f32 (ge ts (xs.length - 1)), true) := by
  unfold timeR
  rw [h, if_pos rfl]
  have : (List.range xs.length).find? (hit xs cur) = none := by
    rw [List.find?_eq_none]
    intro j hj
    have hj' : j < xs.length := by simpa using hj
    unfold hit
    by_cases h1 : 1 ≤ j
    · rw [hno j h1 hj']; simp
    · simp [h1]
  rw [this]

/-! valid curves rise -/
theorem validL_spec {xs ts : List Nat} (h : validL xs ts = true) : 2 ≤ xs.length ∧ xs.length ≤ 16 ∧ ts.length = xs.length ∧ ∀ j, j < xs.length → okAt xs ts j = true := by
  unfold validL at h
  simp only [Bool.and_eq_true, List.all_eq_true, List.mem_range] at h
  obtain ⟨h1, h2⟩ := h
  obtain ⟨a, b, c⟩ := sizeOk_iff h1
  exact ⟨a, b, c, h2⟩
theorem plusB_num {x : Nat} (h : plusB x = true) : isN .f32 x = false := by
  unfold plusB at h
  simp only [Bool.and_eq_true] at h
  exact fin_not_nan h.1
theorem okAt_num {xs ts : List Nat} {j : Nat} (h : okAt xs ts j = true) : isN .f32 (ge xs j) = false ∧ isN .f32 (ge ts j) = false := by
  cases j with
  | zero =>
    simp only [okAt, Bool.and_eq_true] at h
    exact ⟨plusB_num h.1, plusB_num h.2⟩
  | succ j =>
    simp only [okAt, Bool.and_eq_true] at h
    exact ⟨plusB_num h.1.1, plusB_num h.1.2⟩
theorem lt_of_not_ge {a b : Nat} (ha : isN .f32 a = false) (hb : isN .f32 b = false) (h : geB a b = false) : ltB a b = true := by
  unfold geB at h
  unfold ltB
  obtain ⟨o, ho⟩ := order_some ha hb
  rw [cf_eq, ho] at h
  rw [cf_eq, ho]
  cases o <;> first | rfl | (simp at h)
theorem ge_not_lt {a b : Nat} (h : geB a b = true) : ltB a b = false := by
  unfold geB at h
  unfold ltB
  cases hc : cf .f32 a b with
  | none => rw [hc] at h; simp at h
  | some o => rw [hc] at h; cases o <;> simp_all
theorem le_not_lt {a b : Nat} (h : (cf .f32 b a == some .lt || cf .f32 b a == some .eq) = true) : ltB a b = false := by
  unfold ltB
  rw [cf_swap .f32 b a]
  cases hc : cf .f32 b a with
  | none => rfl
  | some o => rw [hc] at h; cases o <;> simp_all
theorem not_le_lt {a b : Nat} (ha : isN .f32 a = false) (hb : isN .f32 b = false) (h : (cf .f32 b a == some .lt || cf .f32 b a == some .eq) = false) : ltB a b = true := by
  unfold ltB
  rw [cf_swap .f32 b a]
  obtain ⟨o, ho⟩ := order_some hb ha
  rw [cf_eq, ho] at h
  rw [cf_eq, ho]
  cases o <;> first | rfl | (simp at h)
theorem rises {xs ts : List Nat} (h : ∀ j, j < xs.length → okAt xs ts j = true) (i : Nat) : ∀ d, i + d + 1 < xs.length → ltB (ge xs i) (ge xs (i + d + 1)) = true := by
  have one : ∀ j, j + 1 < xs.length → ltB (ge xs j) (ge xs (j + 1)) = true := fun j hj => by
    have h1 := h (j + 1) hj
    have n1 := (okAt_num (h j (by omega))).1
    have n2 := (okAt_num h1).1
    simp only [okAt, Bool.and_eq_true, Bool.not_eq_true'] at h1
    exact lt_of_not_ge n1 n2 h1.2.1
  intro d
  induction d with
  | zero => intro hd; exact one i hd
  | succ d ih =>
    intro hd
    have h1 := ih (by omega)
    have h2 := one (i + d + 1) (by omega)
    unfold ltB at *
    rw [beq_iff_eq] at *
    exact cf_trans h1 h2
theorem top_none {xs ts : List Nat} {cur : Nat} (h : ∀ j, j < xs.length → okAt xs ts j = true) (hl : 0 < xs.length) (ht : geB cur (ge xs (xs.length - 1)) = true) : ∀ j, j < xs.length → ltB cur (ge xs j) = false := by
  intro j hj
  cases hc : ltB cur (ge xs j) with
  | false => rfl
  | true =>
    exfalso
    by_cases he : j = xs.length - 1
    · rw [he, ge_not_lt ht] at hc; cases hc
    · have h1 := rises h j (xs.length - 1 - j - 1) (by omega)
      rw [show j + (xs.length - 1 - j - 1) + 1 = xs.length - 1 by omega] at h1
      have h2 : ltB cur (ge xs (xs.length - 1)) = true := by
        unfold ltB at *
        rw [beq_iff_eq] at *
        exact cf_trans hc h1
      rw [ge_not_lt ht] at h2
      cases h2
/-- how a call that tells a time ends -/
def TimeOk (R : Nat × Bool) (e : Ending) : Prop := ∃ r, cn .f32 r = R.1 ∧ e = .returned (.tuple #[.float .f32 r, .bool R.2])
theorem interp_of {u v s t cur d1 d2 q d3 m r : Nat} (h1 : cn .f32 d1 = fb .sub .f32 (cn .f32 cur) (cn .f32 u)) (h2 : cn .f32 d2 = fb .sub .f32 (cn .f32 v) (cn .f32 u)) (h3 : cn .f32 q = fb .quo .f32 (cn .f32 d1) (cn .f32 d2))
    (h4 : cn .f32 d3 = fb .sub .f32 (cn .f32 t) (cn .f32 s)) (h5 : cn .f32 m = fb .mul .f32 (cn .f32 d3) (cn .f32 q)) (h6 : cn .f32 r = fb .add .f32 (cn .f32 s) (cn .f32 m)) : cn .f32 r = interp u v s t cur := by
  rw [h6, h5, h4, h3, h1, h2]; rfl
theorem cn_zero : cn .f32 0 = 0 := cn_of_not (by decide +kernel)
theorem timeOk_low {xs ts : List Nat} {cur : Nat} (h : geB cur (ge xs 0) = false) : TimeOk (timeR xs ts cur) (.returned (.tuple #[.float .f32 0, .bool false])) := by
  rw [timeR_low h]
  exact ⟨0, cn_zero, rfl⟩
theorem timeOk_end {xs ts : List Nat} {cur : Nat} (h : geB cur (ge xs 0) = true) (hno : ∀ j, 1 ≤ j → j < xs.length → ltB cur (ge xs j) = false) :
    TimeOk (timeR xs ts cur) (.returned (.tuple #[.float .f32 (ge ts (xs.length - 1)), .bool true])) := by
  rw [timeR_end h hno]
  exact ⟨_, rfl, rfl⟩
theorem timeOk_hit {xs ts : List Nat} {cur k : Nat} (h : geB cur (ge xs 0) = true) (hk1 : 1 ≤ k) (hk : k < xs.length) (hno : ∀ j, 1 ≤ j → j < k → ltB cur (ge xs j) = false) (hy : ltB cur (ge xs k) = true) {r : Nat}
    (hr : cn .f32 r = interp (ge xs (k - 1)) (ge xs k) (ge ts (k - 1)) (ge ts k) cur) : TimeOk (timeR xs ts cur) (.returned (.tuple #[.float .f32 r, .bool true])) := by
  rw [timeR_hit h hk1 hk hno hy]
  exact ⟨r, hr, rfl⟩
theorem all1_step {p : Nat → Prop} {k : Nat} (h : ∀ j, 1 ≤ j → j < k → p j) (hk : p k) : ∀ j, 1 ≤ j → j < k + 1 → p j := fun j h1 hj => by
  rcases Nat.lt_or_ge j k with h' | h'
  · exact h j h1 h'
  · obtain rfl : j = k := by omega
    exact hk
theorem interp_fv (w1 w2 w3 w4 w5 w6 : World) (u v s t cur : Nat) :
    cn .f32 (fv w1 .add .f32 s (fv w2 .mul .f32 (fv w3 .sub .f32 t s) (fv w4 .quo .f32 (fv w5 .sub .f32 cur u) (fv w6 .sub .f32 v u)))) = interp u v s t cur := by
  unfold interp
  simp only [cn_fv, fb_cn_left, fb_cn_right, fb_fv_left, fb_fv_right]
theorem geB_num {a b : Nat} (h : geB a b = true) : isN .f32 a = false := by
  cases hn : isN .f32 a with
  | false => rfl
  | true =>
    unfold geB at h
    rw [cf_eq, order_nan _ hn] at h
    cases h
/-- not at the top: below it -/
theorem top_lt {xs ts : List Nat} {cur : Nat} (h : ∀ j, j < xs.length → okAt xs ts j = true) (hl : 0 < xs.length) (h0 : geB cur (ge xs 0) = true) (ht : geB cur (ge xs (xs.length - 1)) = false) : ltB cur (ge xs (xs.length - 1)) = true :=
  lt_of_not_ge (geB_num h0) (okAt_num (h _ (by omega))).1 ht
def leB (a b : Nat) : Bool := cf .f32 a b == some .lt || cf .f32 a b == some .eq
theorem leB_not_lt {a b : Nat} (h : leB b a = true) : ltB a b = false := le_not_lt h
theorem not_leB_lt {a b : Nat} (ha : isN .f32 a = false) (hb : isN .f32 b = false) (h : leB b a = false) : ltB a b = true := not_le_lt ha hb h
end Go.Proofs.Ytdkkdohbmpjfdaa
