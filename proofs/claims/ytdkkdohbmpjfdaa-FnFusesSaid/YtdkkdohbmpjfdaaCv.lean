/-
  ValidCurve of the program and of the reference.
-/
import Derived.Test.YtdkkdohbmpjfdaaCu
import Derived.Test.YtdkkdohbmpjfdaaWb
namespace Go.Proofs.Ytdkkdohbmpjfdaa
open Go.RowKit Go.Fl Go.Lb

/-- 'a >= b' and 'a > b' -/
def geB (a b : Nat) : Bool := cf .f32 a b == some .gt || cf .f32 a b == some .eq
def gtB (a b : Nat) : Bool := cf .f32 a b == some .gt
/-- a place of a curve is as it should be -/
def okAt (xs ts : List Nat) : Nat → Bool
  | 0 => plusB (ge xs 0) && plusB (ge ts 0)
  | j + 1 => plusB (ge xs (j + 1)) && plusB (ge ts (j + 1)) && (!geB (ge xs j) (ge xs (j + 1)) && !gtB (ge ts (j + 1)) (ge ts j))
def sizeOk (n m : Nat) : Bool := decide (2 ≤ n) && decide (n ≤ 16) && decide (m = n)
def validL (xs ts : List Nat) : Bool := sizeOk xs.length ts.length && (List.range xs.length).all (okAt xs ts)
theorem validL_size {xs ts : List Nat} (h : sizeOk xs.length ts.length = false) : validL xs ts = false := by unfold validL; rw [h]; rfl
theorem validL_no {xs ts : List Nat} {k : Nat} (hk : k < xs.length) (h : okAt xs ts k = false) : validL xs ts = false := by
  unfold validL
  have : (List.range xs.length).all (okAt xs ts) = false := by
    rw [List.all_eq_false]
    exact ⟨k, by simpa using hk, by simpa using h⟩
  rw [this, Bool.and_false]
theorem validL_yes {xs ts : List Nat} (hs : sizeOk xs.length ts.length = true) (h : ∀ j, j < xs.length → okAt xs ts j = true) : validL xs ts = true := by
  unfold validL
  rw [hs]
  simp only [Bool.true_and, List.all_eq_true, List.mem_range]
  exact h
theorem sizeOk_iff {n m : Nat} (h : sizeOk n m = true) : 2 ≤ n ∧ n ≤ 16 ∧ m = n := by
  unfold sizeOk at h
  simpa [and_assoc] using h
theorem okAt_a {xs ts : List Nat} {k : Nat} (h : plusB (ge xs k) = false) : okAt xs ts k = false := by cases k <;> simp [okAt, h]
theorem okAt_b {xs ts : List Nat} {k : Nat} (h : plusB (ge ts k) = false) : okAt xs ts k = false := by cases k <;> simp [okAt, h]
theorem okAt_c {xs ts : List Nat} {j : Nat} (h : geB (ge xs j) (ge xs (j + 1)) = true) : okAt xs ts (j + 1) = false := by simp [okAt, h]
theorem okAt_d {xs ts : List Nat} {j : Nat} (h : gtB (ge ts (j + 1)) (ge ts j) = true) : okAt xs ts (j + 1) = false := by simp [okAt, h]
theorem okAt_0 {xs ts : List Nat} (h1 : plusB (ge xs 0) = true) (h2 : plusB (ge ts 0) = true) : okAt xs ts 0 = true := by simp [okAt, h1, h2]
theorem okAt_s {xs ts : List Nat} {j : Nat} (h1 : plusB (ge xs (j + 1)) = true) (h2 : plusB (ge ts (j + 1)) = true) (h3 : geB (ge xs j) (ge xs (j + 1)) = false) (h4 : gtB (ge ts (j + 1)) (ge ts j) = false) : okAt xs ts (j + 1) = true := by simp [okAt, h1, h2, h3, h4]
theorem okAt_c' {xs ts : List Nat} {k : Nat} (hp : 0 < k) (h : geB (ge xs (k - 1)) (ge xs k) = true) : okAt xs ts k = false := by
  obtain ⟨j, rfl⟩ : ∃ j, k = j + 1 := ⟨k - 1, by omega⟩
  exact okAt_c h
theorem okAt_d' {xs ts : List Nat} {k : Nat} (hp : 0 < k) (h : gtB (ge ts k) (ge ts (k - 1)) = true) : okAt xs ts k = false := by
  obtain ⟨j, rfl⟩ : ∃ j, k = j + 1 := ⟨k - 1, by omega⟩
  exact okAt_d h
theorem okAt_s' {xs ts : List Nat} {k : Nat} (hp : 0 < k) (h1 : plusB (ge xs k) = true) (h2 : plusB (ge ts k) = true) (h3 : geB (ge xs (k - 1)) (ge xs k) = false) (h4 : gtB (ge ts k) (ge ts (k - 1)) = false) : okAt xs ts k = true := by
  obtain ⟨j, rfl⟩ : ∃ j, k = j + 1 := ⟨k - 1, by omega⟩
  exact okAt_s h1 h2 h3 h4
theorem all_step {p : Nat → Bool} {k : Nat} (h : ∀ j, j < k → p j = true) (hk : p k = true) : ∀ j, j < k + 1 → p j = true := fun j hj => by
  rcases Nat.lt_or_ge j k with h' | h'
  · exact h j h'
  · obtain rfl : j = k := by omega
    exact hk

/-- 'n is from low to high' -/
def inB (n low high : Int) : Bool := decide (low ≤ n) && decide (n ≤ high)
set_option maxHeartbeats 400000 in
theorem in_any (n low high : Int) (w : World) :
    Calls Try.prog 60 #[.int .i64 n, .int .i64 low, .int .i64 high] w fun e w' => e = .returned (.bool (inB n low high)) ∧ w = w' := by
  by_cases h1 : low ≤ n <;> by_cases h2 : n ≤ high
  all_goals
    go_enter Try.func60, Try.ntmps60
    go_wp2
    go_ret
    exact ⟨ret_bool (by simp [inB, h1, h2]), rfl⟩

set_option maxHeartbeats 2000000 in
theorem validCurveI_any (A B : Option Addr) (c d : Nat) (xs ts : List Nat) (w : World) (HX : RdF w A xs) (HT : RdF w B ts) :
    Calls Try.prog 34 #[.agg #[.slice A xs.length c, .slice B ts.length d]] w fun e w' => e = .returned (.bool (validL xs ts)) ∧ Below w.heap.size w w' := by
  have hm := HX.1
  have hm2 := HT.1
  cases hs : sizeOk xs.length ts.length with
  | false =>
    have HN := Lib.hid (validL_size hs)
    by_cases h1 : 2 ≤ xs.length ∧ xs.length ≤ 16
    · have hin : inB xs.length 2 16 = true := by unfold inB; simp; omega
      have hne : ((ts.length : Int) != (xs.length : Int)) = true := by
        have : ¬ ts.length = xs.length := fun h => by
          unfold sizeOk at hs
          simp [h1.1, h1.2, h] at hs
        simp; omega
      clear hs h1
      go_enter Try.func34, Try.ntmps34
      go_wp2_with (go_at_call 60; refine (in_any _ _ _ _).mono ?_; rintro e w' ⟨rfl, rfl⟩)
      go_ret
      exact ⟨ret_bool HN.out.symm, (by repeat' (first | (with_reducible exact Below.refl _ _) | (with_reducible assumption) | (with_reducible refine below_drewN ?_ _) | (with_reducible refine Below.drew ?_) | (with_reducible refine below_alloc ?_ _) | (with_reducible refine Below.setCell ?_ ?_ _) | (with_reducible refine below_then ?_ (by assumption)) | omega | (simp; done) | (simp; omega)))⟩
    · have hin : inB xs.length 2 16 = false := by unfold inB; simp; omega
      clear hs h1
      go_enter Try.func34, Try.ntmps34
      go_wp2_with (go_at_call 60; refine (in_any _ _ _ _).mono ?_; rintro e w' ⟨rfl, rfl⟩)
      go_ret
      exact ⟨ret_bool HN.out.symm, (by repeat' (first | (with_reducible exact Below.refl _ _) | (with_reducible assumption) | (with_reducible refine below_drewN ?_ _) | (with_reducible refine Below.drew ?_) | (with_reducible refine below_alloc ?_ _) | (with_reducible refine Below.setCell ?_ ?_ _) | (with_reducible refine below_then ?_ (by assumption)) | omega | (simp; done) | (simp; omega)))⟩
  | true =>
    obtain ⟨h2, h16, hmn⟩ := sizeOk_iff hs
    have hin : inB xs.length 2 16 = true := by unfold inB; simp; omega
    have hne : ((ts.length : Int) != (xs.length : Int)) = false := by rw [hmn]; simp
    have HS := Lib.hid hs
    have HMN := Lib.hid hmn
    have hle1 : xs.length ≤ ts.length := by omega
    clear hs hmn
    have HX0 := HX.below (below_alloc (Below.refl _ _) (.cells #[.slice A xs.length c, .slice B ts.length d] 54))
    have HT0 := HT.below (below_alloc (Below.refl _ _) (.cells #[.slice A xs.length c, .slice B ts.length d] 54))
    go_enter Try.func34, Try.ntmps34
    go_wp2_with (go_at_call 60; refine (in_any _ _ _ _).mono ?_; rintro e w' ⟨rfl, rfl⟩)
    go_loopw [22] (fun i wr => ∃ k n : Nat, k ≤ xs.length ∧ i = .int .i64 k ∧ wr = (w.alloc (.cells #[.slice A xs.length c, .slice B ts.length d] 54)).drewN n ∧ Hid (∀ j, j < k → okAt xs ts j = true)) (fun i _ => xs.length - (intOf i).toNat)
    case atStart => exact ⟨0, 0, Nat.zero_le _, rfl, rfl, fun j hj => absurd hj (by omega)⟩
    case round =>
      obtain ⟨k, n, hk, rfl, rfl, hall⟩ := hrel
      by_cases hlt : k < xs.length
      · have hlt2 : k < ts.length := by omega
        have hki : (k : Int) < ts.length := by omega
        obtain ⟨a, rfl, hca⟩ := HX0.at_ hlt
        obtain ⟨b, rfl, hcb⟩ := HT0.at_ hlt2
        cases h1 : plusB (ge xs k) with
        | false =>
          have HN := Lib.hid (validL_no (ts := ts) hlt (okAt_a h1))
          go_wp2_with fail
          go_quiet ((go_at_call 51; exact quiet_add (plusFinite_any _ _)))
          go_wp2_with fail
          go_ret
          exact ⟨ret_bool HN.out.symm, (by repeat' (first | (with_reducible exact Below.refl _ _) | (with_reducible assumption) | (with_reducible refine below_drewN ?_ _) | (with_reducible refine Below.drew ?_) | (with_reducible refine below_alloc ?_ _) | (with_reducible refine Below.setCell ?_ ?_ _) | (with_reducible refine below_then ?_ (by assumption)) | omega | (simp; done) | (simp; omega)))⟩
        | true =>
          cases h2 : plusB (ge ts k) with
          | false =>
            have HN := Lib.hid (validL_no hlt (okAt_b h2))
            go_wp2_with fail
            go_quiet ((go_at_call 51; exact quiet_add (plusFinite_any _ _)))
            go_wp2_with fail
            go_ret
            exact ⟨ret_bool HN.out.symm, (by repeat' (first | (with_reducible exact Below.refl _ _) | (with_reducible assumption) | (with_reducible refine below_drewN ?_ _) | (with_reducible refine Below.drew ?_) | (with_reducible refine below_alloc ?_ _) | (with_reducible refine Below.setCell ?_ ?_ _) | (with_reducible refine below_then ?_ (by assumption)) | omega | (simp; done) | (simp; omega)))⟩
          | true =>
            by_cases hk0 : k = 0
            · subst hk0
              have HY := Lib.hid (okAt_0 h1 h2)
              rw [Addr.add_zero'] at hca hcb
              go_wp2_with fail
              go_quiet ((go_at_call 51; exact quiet_add (plusFinite_any _ _)))
              go_wp2_with fail
              go_roundw
              case rel => exact ⟨1, _, by omega, rfl, rfl, all_step hall.out HY.out⟩
              case measure => simp [intOf]; omega
            · have hp : 0 < k := by omega
              have hpi : (0 : Int) < k := by omega
              obtain ⟨a', ea, hca'⟩ := HX0.at_ (show k - 1 < xs.length by omega)
              obtain ⟨b', eb, hcb'⟩ := HT0.at_ (show k - 1 < ts.length by omega)
              injection ea with ea
              injection eb with eb
              subst ea
              subst eb
              cases h3 : geB (ge xs (k - 1)) (ge xs k) with
              | true =>
                have HN := Lib.hid (validL_no (ts := ts) hlt (okAt_c' hp h3))
                have h3' : (cf .f32 (ge xs (k - 1)) (ge xs k) == some .gt || cf .f32 (ge xs (k - 1)) (ge xs k) == some .eq) = true := h3
                go_wp2_with fail
                go_quiet ((go_at_call 51; exact quiet_add (plusFinite_any _ _)))
                go_wp2_with fail
                go_ret
                exact ⟨ret_bool HN.out.symm, (by repeat' (first | (with_reducible exact Below.refl _ _) | (with_reducible assumption) | (with_reducible refine below_drewN ?_ _) | (with_reducible refine Below.drew ?_) | (with_reducible refine below_alloc ?_ _) | (with_reducible refine Below.setCell ?_ ?_ _) | (with_reducible refine below_then ?_ (by assumption)) | omega | (simp; done) | (simp; omega)))⟩
              | false =>
                have h3' : (cf .f32 (ge xs (k - 1)) (ge xs k) == some .gt || cf .f32 (ge xs (k - 1)) (ge xs k) == some .eq) = false := h3
                cases h4 : gtB (ge ts k) (ge ts (k - 1)) with
                | true =>
                  have HN := Lib.hid (validL_no (xs := xs) hlt (okAt_d' hp h4))
                  have h4' : (cf .f32 (ge ts k) (ge ts (k - 1)) == some .gt) = true := h4
                  go_wp2_with fail
                  go_quiet ((go_at_call 51; exact quiet_add (plusFinite_any _ _)))
                  go_wp2_with fail
                  go_ret
                  exact ⟨ret_bool HN.out.symm, (by repeat' (first | (with_reducible exact Below.refl _ _) | (with_reducible assumption) | (with_reducible refine below_drewN ?_ _) | (with_reducible refine Below.drew ?_) | (with_reducible refine below_alloc ?_ _) | (with_reducible refine Below.setCell ?_ ?_ _) | (with_reducible refine below_then ?_ (by assumption)) | omega | (simp; done) | (simp; omega)))⟩
                | false =>
                  have HY := Lib.hid (okAt_s' hp h1 h2 h3 h4)
                  have h4' : (cf .f32 (ge ts k) (ge ts (k - 1)) == some .gt) = false := h4
                  go_wp2_with fail
                  go_quiet ((go_at_call 51; exact quiet_add (plusFinite_any _ _)))
                  go_wp2_with fail
                  go_roundw
                  case rel => exact ⟨k + 1, _, by omega, by go_num, rfl, all_step hall.out HY.out⟩
                  case measure => simp [intOf]; omega
      · obtain rfl : k = xs.length := by omega
        have HY := Lib.hid (validL_yes HS.out hall.out)
        go_wp2_with fail
        go_ret
        exact ⟨ret_bool HY.out.symm, (by repeat' (first | (with_reducible exact Below.refl _ _) | (with_reducible assumption) | (with_reducible refine below_drewN ?_ _) | (with_reducible refine Below.drew ?_) | (with_reducible refine below_alloc ?_ _) | (with_reducible refine Below.setCell ?_ ?_ _) | (with_reducible refine below_then ?_ (by assumption)) | omega | (simp; done) | (simp; omega)))⟩
set_option maxHeartbeats 2000000 in
theorem l07Is_any (p o : Nat) (A B : Option Addr) (c d : Nat) (xs ts : List Nat) (w : World) (h0 : w.cell? ⟨p, o, none⟩ = some (.slice A xs.length c)) (h1 : w.cell? ⟨p, o + 1, none⟩ = some (.slice B ts.length d)) (HX : RdF w A xs) (HT : RdF w B ts) :
    Calls Try.prog 59 #[.pointer (some ⟨p, o, none⟩)] w fun e w' => e = .returned (.bool (validL xs ts)) ∧ ∃ n, w' = w.drewN n := by
  have hm := HX.1
  have hm2 := HT.1
  cases hs : sizeOk xs.length ts.length with
  | false =>
    have HN := Lib.hid (validL_size hs)
    by_cases g1 : xs.length < 2
    · have g1i : (xs.length : Int) < 2 := by omega
      clear hs
      go_enter Try.func59, Try.ntmps59
      go_wp2
      go_ret
      exact ⟨ret_bool HN.out.symm, 0, rfl⟩
    · by_cases g2 : 16 < xs.length
      · have g1i : ¬ (xs.length : Int) < 2 := by omega
        have g2i : 16 < (xs.length : Int) := by omega
        clear hs
        go_enter Try.func59, Try.ntmps59
        go_wp2
        go_ret
        exact ⟨ret_bool HN.out.symm, 0, rfl⟩
      · have g1i : ¬ (xs.length : Int) < 2 := by omega
        have g2i : ¬ 16 < (xs.length : Int) := by omega
        have hne : ((ts.length : Int) != (xs.length : Int)) = true := by
          have : ¬ ts.length = xs.length := fun h => by
            unfold sizeOk at hs
            simp [show 2 ≤ xs.length by omega, show xs.length ≤ 16 by omega, h] at hs
          simp; omega
        clear hs
        go_enter Try.func59, Try.ntmps59
        go_wp2
        go_ret
        exact ⟨ret_bool HN.out.symm, 0, rfl⟩
  | true =>
    obtain ⟨h2, h16, hmn⟩ := sizeOk_iff hs
    have g1i : ¬ (xs.length : Int) < 2 := by omega
    have g2i : ¬ 16 < (xs.length : Int) := by omega
    have hne : ((ts.length : Int) != (xs.length : Int)) = false := by rw [hmn]; simp
    have HS := Lib.hid hs
    have hle1 : xs.length ≤ ts.length := by omega
    clear hs hmn
    go_enter Try.func59, Try.ntmps59
    go_wp2_with fail
    go_loopw [30] (fun i wr => ∃ k n : Nat, k ≤ xs.length ∧ i = .int .i64 k ∧ wr = w.drewN n ∧ Hid (∀ j, j < k → okAt xs ts j = true)) (fun i _ => xs.length - (intOf i).toNat)
    case atStart => exact ⟨0, 0, Nat.zero_le _, rfl, rfl, fun j hj => absurd hj (by omega)⟩
    case round =>
      obtain ⟨k, n, hk, rfl, rfl, hall⟩ := hrel
      by_cases hlt : k < xs.length
      · have hlt2 : k < ts.length := by omega
        have hki : (k : Int) < ts.length := by omega
        obtain ⟨a, rfl, hca⟩ := HX.at_ hlt
        obtain ⟨b, rfl, hcb⟩ := HT.at_ hlt2
        cases h1 : plusB (ge xs k) with
        | false =>
          have HN := Lib.hid (validL_no (ts := ts) hlt (okAt_a h1))
          go_wp2_with (go_at_call 71; refine (l07Positive_any _ _).mono ?_; rintro e w' ⟨rfl, n, rfl⟩)
          go_ret
          first | exact ⟨ret_bool HN.out.symm, _, rfl⟩ | exact ⟨ret_bool HN.out.symm, _, World.drewN_drewN _ _ _⟩
        | true =>
          cases h2 : plusB (ge ts k) with
          | false =>
            have HN := Lib.hid (validL_no hlt (okAt_b h2))
            go_wp2_with (go_at_call 71; refine (l07Positive_any _ _).mono ?_; rintro e w' ⟨rfl, n, rfl⟩)
            go_ret
            first | exact ⟨ret_bool HN.out.symm, _, rfl⟩ | exact ⟨ret_bool HN.out.symm, _, World.drewN_drewN _ _ _⟩
          | true =>
            by_cases hk0 : k = 0
            · subst hk0
              have HY := Lib.hid (okAt_0 h1 h2)
              rw [Addr.add_zero'] at hca hcb
              go_wp2_with (go_at_call 71; refine (l07Positive_any _ _).mono ?_; rintro e w' ⟨rfl, n, rfl⟩)
              go_quiet (fail)
              go_wp2_with fail
              go_roundw
              case rel => exact ⟨1, _, by omega, rfl, rfl, all_step hall.out HY.out⟩
              case measure => simp [intOf]; omega
            · have hp : 0 < k := by omega
              have hpi : (0 : Int) < k := by omega
              obtain ⟨a', ea, hca'⟩ := HX.at_ (show k - 1 < xs.length by omega)
              obtain ⟨b', eb, hcb'⟩ := HT.at_ (show k - 1 < ts.length by omega)
              injection ea with ea
              injection eb with eb
              subst ea
              subst eb
              cases h3 : geB (ge xs (k - 1)) (ge xs k) with
              | true =>
                have HN := Lib.hid (validL_no (ts := ts) hlt (okAt_c' hp h3))
                have h3' : (cf .f32 (ge xs (k - 1)) (ge xs k) == some .gt || cf .f32 (ge xs (k - 1)) (ge xs k) == some .eq) = true := h3
                go_wp2_with (go_at_call 71; refine (l07Positive_any _ _).mono ?_; rintro e w' ⟨rfl, n, rfl⟩)
                go_quiet (fail)
                go_wp2_with fail
                go_ret
                first | exact ⟨ret_bool HN.out.symm, _, rfl⟩ | exact ⟨ret_bool HN.out.symm, _, World.drewN_drewN _ _ _⟩
              | false =>
                have h3' : (cf .f32 (ge xs (k - 1)) (ge xs k) == some .gt || cf .f32 (ge xs (k - 1)) (ge xs k) == some .eq) = false := h3
                cases h4 : gtB (ge ts k) (ge ts (k - 1)) with
                | true =>
                  have HN := Lib.hid (validL_no (xs := xs) hlt (okAt_d' hp h4))
                  have h4' : (cf .f32 (ge ts (k - 1)) (ge ts k) == some .lt) = true := by rw [← cf_gt_lt]; exact h4
                  go_wp2_with (go_at_call 71; refine (l07Positive_any _ _).mono ?_; rintro e w' ⟨rfl, n, rfl⟩)
                  go_quiet (fail)
                  go_wp2_with fail
                  go_ret
                  first | exact ⟨ret_bool HN.out.symm, _, rfl⟩ | exact ⟨ret_bool HN.out.symm, _, World.drewN_drewN _ _ _⟩
                | false =>
                  have HY := Lib.hid (okAt_s' hp h1 h2 h3 h4)
                  have h4' : (cf .f32 (ge ts (k - 1)) (ge ts k) == some .lt) = false := by rw [← cf_gt_lt]; exact h4
                  go_wp2_with (go_at_call 71; refine (l07Positive_any _ _).mono ?_; rintro e w' ⟨rfl, n, rfl⟩)
                  go_quiet (fail)
                  go_wp2_with fail
                  go_roundw
                  case rel => exact ⟨k + 1, _, by omega, by go_num, rfl, all_step hall.out HY.out⟩
                  case measure => simp [intOf]; omega
      · obtain rfl : k = xs.length := by omega
        have HY := Lib.hid (validL_yes HS.out hall.out)
        go_wp2_with fail
        go_ret
        exact ⟨ret_bool HY.out.symm, _, rfl⟩
set_option maxHeartbeats 400000 in
theorem validCurveS_any (A B : Option Addr) (c d : Nat) (xs ts : List Nat) (w : World) (HX : RdF w A xs) (HT : RdF w B ts) :
    Calls Try.prog 32 #[.agg #[.slice A xs.length c, .slice B ts.length d]] w fun e w' => e = .returned (.bool (validL xs ts)) ∧ Below w.heap.size w w' := by
  go_enter Try.func32, Try.ntmps32
  go_wp2_with fail
  refine (l07Is_any _ 0 A B c d xs ts _ (by go_simp) (by go_simp) (HX.below (by repeat' (first | (with_reducible exact Below.refl _ _) | (with_reducible assumption) | (with_reducible refine below_drewN ?_ _) | (with_reducible refine Below.drew ?_) | (with_reducible refine below_alloc ?_ _) | (with_reducible refine Below.setCell ?_ ?_ _) | (with_reducible refine below_then ?_ (by assumption)) | omega | (simp; done) | (simp; omega)))) (HT.below (by repeat' (first | (with_reducible exact Below.refl _ _) | (with_reducible assumption) | (with_reducible refine below_drewN ?_ _) | (with_reducible refine Below.drew ?_) | (with_reducible refine below_alloc ?_ _) | (with_reducible refine Below.setCell ?_ ?_ _) | (with_reducible refine below_then ?_ (by assumption)) | omega | (simp; done) | (simp; omega))))).mono ?_
  rintro e w' ⟨rfl, n, rfl⟩
  go_wp2_with fail
  go_ret
  exact ⟨rfl, (by repeat' (first | (with_reducible exact Below.refl _ _) | (with_reducible assumption) | (with_reducible refine below_drewN ?_ _) | (with_reducible refine Below.drew ?_) | (with_reducible refine below_alloc ?_ _) | (with_reducible refine Below.setCell ?_ ?_ _) | (with_reducible refine below_then ?_ (by assumption)) | omega | (simp; done) | (simp; omega)))⟩
set_option maxHeartbeats 1000000 in
theorem fnExactValidCurve_walk (A B : Option Addr) (c d : Nat) (xs ts : List Nat) (w : World) (HX : RdF w A xs) (HT : RdF w B ts) :
    Calls Try.prog 8 #[.agg #[.slice A xs.length c, .slice B ts.length d]] w fun e w' => e = .returned (.bool true) ∧ Below w.heap.size w w' := by
  have hm := HX.1
  have hm2 := HT.1
  rcases szC_le (left := 1048576) (n := xs.length) (m := ts.length) (by omega) (by omega) with hz | ⟨hz, hz1, hz2⟩
  · go_enter Try.func8, Try.ntmps8
    go_wp2_with fail
    (refine (szCurve_any _ _ _ _ _ _ _ _ hm hm2 (by omega) (by omega)).mono ?_; rintro e w1 ⟨rfl, hb1⟩; have hz1 := hb1.size; (try simp at hz1))
    go_wp2_with fail
    go_ret
    exact ⟨rfl, (by repeat' (first | (with_reducible exact Below.refl _ _) | (with_reducible assumption) | (with_reducible refine below_drewN ?_ _) | (with_reducible refine Below.drew ?_) | (with_reducible refine below_alloc ?_ _) | (with_reducible refine Below.setCell ?_ ?_ _) | (with_reducible refine below_then ?_ (by assumption)) | omega | (simp; done) | (simp; omega)))⟩
  · have hl : xs.length ≤ 1048576 := by omega
    have hl2 : ts.length ≤ 1048576 := by omega
    have HZ := Lib.hid hz
    go_enter Try.func8, Try.ntmps8
    clear hz
    go_wp2_with fail
    (refine (szCurve_any _ _ _ _ _ _ _ _ hm hm2 (by omega) (by omega)).mono ?_; rintro e w1 ⟨rfl, hb1⟩; rw [HZ.out]; have HX1 := (HX.below (below_alloc (Below.refl _ _) _)).below hb1; have HT1 := (HT.below (below_alloc (Below.refl _ _) _)).below hb1; have hz1 := hb1.size; (try simp at hz1); obtain ⟨hc1_0, hf1_0, hx1_0⟩ := bcell0 hb1 w.heap.size (by first | assumption | omega | (simp; done) | (simp; omega)))
    go_wp2_with fail
    (refine (toCurve_any _ _ _ _ xs ts _ HX1 HT1 hl hl2).mono ?_; rintro e w2 ⟨g, k, rfl, G, K, hgk, hg, hk, hb2⟩; have HX2 := HX1.below hb2; have HT2 := HT1.below hb2; have GX := G.rdF hm; have KT := K.rdF hm2; have hz2 := hb2.size; (try simp at hz2); obtain ⟨hc2_0, hf2_0, hx2_0⟩ := bcell0 hb2 w.heap.size (by first | assumption | omega | (simp; done) | (simp; omega)))
    go_wp2_with fail
    (refine (validCurveS_any _ _ _ _ xs ts _ GX KT).mono ?_; rintro e w3 ⟨rfl, hb3⟩; have HX3 := HX2.below hb3; have HT3 := HT2.below hb3; have hz3 := hb3.size; (try simp at hz3); obtain ⟨hc3_0, hf3_0, hx3_0⟩ := bcell0 hb3 w.heap.size (by first | assumption | omega | (simp; done) | (simp; omega)))
    go_wp2_with fail
    (refine (toCurve_any _ _ _ _ xs ts _ HX3 HT3 hl hl2).mono ?_; rintro e w4 ⟨g', k', rfl, G', K', hgk', hg', hk', hb4⟩; have HX4 := HX3.below hb4; have HT4 := HT3.below hb4; have GX' := G'.rdF hm; have KT' := K'.rdF hm2; have hz4 := hb4.size; (try simp at hz4); obtain ⟨hc4_0, hf4_0, hx4_0⟩ := bcell0 hb4 w.heap.size (by first | assumption | omega | (simp; done) | (simp; omega)))
    go_wp2_with fail
    (refine (validCurveI_any _ _ _ _ xs ts _ (GX'.below (by repeat' (first | (with_reducible exact Below.refl _ _) | (with_reducible assumption) | (with_reducible refine below_drewN ?_ _) | (with_reducible refine Below.drew ?_) | (with_reducible refine below_alloc ?_ _) | (with_reducible refine Below.setCell ?_ ?_ _) | (with_reducible refine below_then ?_ (by assumption)) | omega | (simp; done) | (simp; omega)))) (KT'.below (by repeat' (first | (with_reducible exact Below.refl _ _) | (with_reducible assumption) | (with_reducible refine below_drewN ?_ _) | (with_reducible refine Below.drew ?_) | (with_reducible refine below_alloc ?_ _) | (with_reducible refine Below.setCell ?_ ?_ _) | (with_reducible refine below_then ?_ (by assumption)) | omega | (simp; done) | (simp; omega))))).mono ?_; rintro e w5 ⟨rfl, hb5⟩; have HX5 : RdF w5 A xs := (HX4.below (below_alloc (Below.refl _ _) _)).below hb5; have HT5 : RdF w5 B ts := (HT4.below (below_alloc (Below.refl _ _) _)).below hb5; have GX5 : RdF w5 _ xs := (GX'.below (below_alloc (Below.refl _ _) _)).below hb5; have KT5 : RdF w5 _ ts := (KT'.below (below_alloc (Below.refl _ _) _)).below hb5; have hz5 := hb5.size; (try simp at hz5); obtain ⟨hc5_0, hf5_0, hx5_0⟩ := bcell0 hb5 w.heap.size (by first | assumption | omega | (simp; done) | (simp; omega)); obtain ⟨hc5_1, hf5_1, hx5_1⟩ := bcell0 hb5 w4.heap.size (by first | assumption | omega | (simp; done) | (simp; omega)))
    go_wp2_with fail
    go_region_with (first
      | (go_at_call 33; (refine (toCurve_any _ _ _ _ xs ts _ (HX5.below (by repeat' (first | (with_reducible exact Below.refl _ _) | (with_reducible assumption) | (with_reducible refine below_drewN ?_ _) | (with_reducible refine Below.drew ?_) | (with_reducible refine below_alloc ?_ _) | (with_reducible refine Below.setCell ?_ ?_ _) | (with_reducible refine below_then ?_ (by assumption)) | omega | (simp; done) | (simp; omega)))) (HT5.below (by repeat' (first | (with_reducible exact Below.refl _ _) | (with_reducible assumption) | (with_reducible refine below_drewN ?_ _) | (with_reducible refine Below.drew ?_) | (with_reducible refine below_alloc ?_ _) | (with_reducible refine Below.setCell ?_ ?_ _) | (with_reducible refine below_then ?_ (by assumption)) | omega | (simp; done) | (simp; omega)))) hl hl2).mono ?_; rintro e w6 ⟨g6, k6, rfl, G6, K6, hgk6, hg6, hk6, hb6⟩; have GX6 := G6.rdF hm; have KT6 := K6.rdF hm2; have GX5' : RdF w6 _ xs := GX5.below (by repeat' (first | (with_reducible exact Below.refl _ _) | (with_reducible assumption) | (with_reducible refine below_drewN ?_ _) | (with_reducible refine Below.drew ?_) | (with_reducible refine below_alloc ?_ _) | (with_reducible refine Below.setCell ?_ ?_ _) | (with_reducible refine below_then ?_ (by assumption)) | exact below_then (Below.drew (Below.refl _ _)) (by assumption) | omega | (simp; done) | (simp; omega))); have KT5' : RdF w6 _ ts := KT5.below (by repeat' (first | (with_reducible exact Below.refl _ _) | (with_reducible assumption) | (with_reducible refine below_drewN ?_ _) | (with_reducible refine Below.drew ?_) | (with_reducible refine below_alloc ?_ _) | (with_reducible refine Below.setCell ?_ ?_ _) | (with_reducible refine below_then ?_ (by assumption)) | exact below_then (Below.drew (Below.refl _ _)) (by assumption) | omega | (simp; done) | (simp; omega))); have hz6 := hb6.size; (try simp at hz6); obtain ⟨hc6_0, hf6_0, hx6_0⟩ := bcell0 hb6 w.heap.size (by first | assumption | omega | (simp; done) | (simp; omega)); obtain ⟨hc6_1, hf6_1, hx6_1⟩ := bcell0 hb6 w4.heap.size (by first | assumption | omega | (simp; done) | (simp; omega))))
      | (go_at_call 35; (refine (eqCurve_any _ _ _ _ _ _ _ _ xs ts xs ts _ (GX5'.below (by repeat' (first | (with_reducible exact Below.refl _ _) | (with_reducible assumption) | (with_reducible refine below_drewN ?_ _) | (with_reducible refine Below.drew ?_) | (with_reducible refine below_alloc ?_ _) | (with_reducible refine Below.setCell ?_ ?_ _) | (with_reducible refine below_then ?_ (by assumption)) | exact below_then (Below.drew (Below.refl _ _)) (by assumption) | omega | (simp; done) | (simp; omega)))) (KT5'.below (by repeat' (first | (with_reducible exact Below.refl _ _) | (with_reducible assumption) | (with_reducible refine below_drewN ?_ _) | (with_reducible refine Below.drew ?_) | (with_reducible refine below_alloc ?_ _) | (with_reducible refine Below.setCell ?_ ?_ _) | (with_reducible refine below_then ?_ (by assumption)) | exact below_then (Below.drew (Below.refl _ _)) (by assumption) | omega | (simp; done) | (simp; omega)))) (GX6.below (by repeat' (first | (with_reducible exact Below.refl _ _) | (with_reducible assumption) | (with_reducible refine below_drewN ?_ _) | (with_reducible refine Below.drew ?_) | (with_reducible refine below_alloc ?_ _) | (with_reducible refine Below.setCell ?_ ?_ _) | (with_reducible refine below_then ?_ (by assumption)) | exact below_then (Below.drew (Below.refl _ _)) (by assumption) | omega | (simp; done) | (simp; omega)))) (KT6.below (by repeat' (first | (with_reducible exact Below.refl _ _) | (with_reducible assumption) | (with_reducible refine below_drewN ?_ _) | (with_reducible refine Below.drew ?_) | (with_reducible refine below_alloc ?_ _) | (with_reducible refine Below.setCell ?_ ?_ _) | (with_reducible refine below_then ?_ (by assumption)) | exact below_then (Below.drew (Below.refl _ _)) (by assumption) | omega | (simp; done) | (simp; omega)))) (SameL.refl _) (SameL.refl _)).mono ?_; rintro e w7 ⟨rfl, hb7⟩; have hz7 := hb7.size; (try simp at hz7))))
    all_goals
      go_wp2_with fail
      go_ret
      exact ⟨rfl, (by repeat' (first | (with_reducible exact Below.refl _ _) | (with_reducible assumption) | (with_reducible refine below_drewN ?_ _) | (with_reducible refine Below.drew ?_) | (with_reducible refine below_alloc ?_ _) | (with_reducible refine Below.setCell ?_ ?_ _) | (with_reducible refine below_then ?_ (by assumption)) | omega | (simp; done) | (simp; omega)))⟩
end Go.Proofs.Ytdkkdohbmpjfdaa
