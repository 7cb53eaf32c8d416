/-
  SameNumber and what is built on it: lists and curves that are the same.
-/
import Derived.Test.YtdkkdohbmpjfdaaChecked
import Derived.Test.YtdkkdohbmpjfdaaLb
import Derived.Laws.Externs
namespace Go.Proofs.Ytdkkdohbmpjfdaa
open Go.RowKit Go.Fl Go.Lb

/-- two numbers are the same -/
def samB (x y : Nat) : Bool := decide (cn .f32 x = cn .f32 y)
theorem samB_nan {x y : Nat} (hx : isN .f32 x = true) (hy : isN .f32 y = true) : samB x y = true := by
  unfold samB; rw [cn_of_nan hx, cn_of_nan hy]; simp
theorem samB_left {x y : Nat} (hx : isN .f32 x = true) (hy : isN .f32 y = false) : samB x y = false := by
  unfold samB
  rw [decide_eq_false_iff_not]
  intro h
  have := isN_of_cn h
  rw [hx, hy] at this
  cases this
theorem samB_right {x y : Nat} (hx : isN .f32 x = false) (hy : isN .f32 y = true) : samB x y = false := by
  unfold samB
  rw [decide_eq_false_iff_not]
  intro h
  have := isN_of_cn h
  rw [hx, hy] at this
  cases this
theorem samB_num {x y : Nat} (hx : isN .f32 x = false) (hy : isN .f32 y = false) : samB x y = ((x : Int) == (y : Int)) := by
  unfold samB
  rw [cn_of_not hx, cn_of_not hy, Bool.eq_iff_iff]
  simp
  omega

theorem f32bits (b : Nat) : ∀ w, (callFunc 86 #[.float .f32 b]).run Try.prog w = .ok (.value (.int .u32 b)) w := by
  intro w
  kernel_rfl
theorem ne_self (x : Nat) : (cf .f32 x x != some .eq) = isN .f32 x := by rw [cf_eq]; exact order_self_ne .f32 x
set_option maxHeartbeats 400000 in
theorem isNaN_any (x : Nat) (w : World) :
    Calls Try.prog 85 #[.float .f32 x] w fun e w' => e = .returned (.bool (isN .f32 x)) ∧ w = w' := by
  go_enter Try.func85, Try.ntmps85
  go_wp2
  go_ret
  exact ⟨ret_bool (ne_self x), rfl⟩
set_option maxHeartbeats 400000 in
theorem sameNumber_any (x y : Nat) (w : World) :
    Calls Try.prog 81 #[.float .f32 x, .float .f32 y] w fun e w' => e = .returned (.bool (samB x y)) ∧ ∃ n, w' = w.drewN n := by
  cases hx : isN .f32 x <;> cases hy : isN .f32 y
  case true.true =>
    rw [samB_nan hx hy]
    go_enter Try.func81, Try.ntmps81
    go_wp2_with (go_at_call 85; refine (isNaN_any _ _).mono ?_; rintro e w' ⟨rfl, rfl⟩)
    go_ret
    exact ⟨rfl, 0, rfl⟩
  case true.false =>
    rw [samB_left hx hy]
    go_enter Try.func81, Try.ntmps81
    go_wp2_with (go_at_call 85; refine (isNaN_any _ _).mono ?_; rintro e w' ⟨rfl, rfl⟩)
    go_ret
    exact ⟨rfl, 0, rfl⟩
  case false.true =>
    rw [samB_right hx hy]
    go_enter Try.func81, Try.ntmps81
    go_wp2_with (go_at_call 85; refine (isNaN_any _ _).mono ?_; rintro e w' ⟨rfl, rfl⟩)
    go_ret
    exact ⟨rfl, 0, rfl⟩
  case false.false =>
    rw [samB_num hx hy]
    have hb1 := f32bits x
    have hb2 := f32bits y
    go_enter Try.func81, Try.ntmps81
    go_wp2_with (go_at_call 85; refine (isNaN_any _ _).mono ?_; rintro e w' ⟨rfl, rfl⟩)
    go_ret
    exact ⟨rfl, 0, rfl⟩
set_option maxHeartbeats 400000 in
theorem l01Bits_any (x : Nat) (w : World) (h32 : x < 4294967296) :
    Calls Try.prog 84 #[.float .f32 x] w fun e w' => e = .returned (.int .i64 (cn .f32 x : Nat)) ∧ w = w' := by
  cases hx : isN .f32 x with
  | true =>
    rw [cn_of_nan hx]
    have h1 : (cf .f32 x x != some .eq) = true := by rw [ne_self]; exact hx
    clear hx
    go_enter Try.func84, Try.ntmps84
    go_wp2
    go_ret
    exact ⟨rfl, rfl⟩
  | false =>
    rw [cn_of_not hx]
    have h1 : (cf .f32 x x != some .eq) = false := by rw [ne_self]; exact hx
    have hb := f32bits x
    clear hx
    go_enter Try.func84, Try.ntmps84
    go_wp2
    go_ret
    exact ⟨rfl, rfl⟩
theorem samB_bits (x y : Nat) : ((cn .f32 x : Int) == (cn .f32 y : Int)) = samB x y := by
  unfold samB
  rw [Bool.eq_iff_iff]
  simp
  omega
set_option maxHeartbeats 400000 in
theorem l01Same_any (x y : Nat) (w : World) (hx : x < 4294967296) (hy : y < 4294967296) :
    Calls Try.prog 79 #[.float .f32 x, .float .f32 y] w fun e w' => e = .returned (.bool (samB x y)) ∧ ∃ n, w' = w.drewN n := by
  rw [← samB_bits]
  go_enter Try.func79, Try.ntmps79
  go_wp2_with fail
  refine (l01Bits_any _ _ hx).mono ?_
  rintro e w' ⟨rfl, rfl⟩
  go_wp2_with fail
  refine (l01Bits_any _ _ hy).mono ?_
  rintro e w' ⟨rfl, rfl⟩
  go_wp2_with fail
  go_ret
  exact ⟨rfl, 0, rfl⟩

/-- two rows are the same -/
def sameLB (xs ys : List Nat) : Bool := decide (xs.map (cn .f32) = ys.map (cn .f32))
theorem sameLB_len {xs ys : List Nat} (h : xs.length ≠ ys.length) : sameLB xs ys = false := by
  unfold sameLB
  rw [decide_eq_false_iff_not]
  intro h'
  exact h (by simpa using congrArg List.length h')
theorem sameLB_no {xs ys : List Nat} {k : Nat} (hk : k < xs.length) (_hk' : k < ys.length) (h : samB (ge xs k) (ge ys k) = false) : sameLB xs ys = false := by
  unfold sameLB
  rw [decide_eq_false_iff_not]
  intro h'
  unfold samB at h
  rw [decide_eq_false_iff_not] at h
  exact h (SameL.at_ h' hk)
theorem sameLB_yes {xs ys : List Nat} (hl : xs.length = ys.length) (h : ∀ j, j < xs.length → samB (ge xs j) (ge ys j) = true) : sameLB xs ys = true := by
  unfold sameLB
  rw [decide_eq_true_iff]
  apply List.ext_getElem (by simpa using hl)
  intro j h1 h2
  have h1' : j < xs.length := by simpa using h1
  have h2' : j < ys.length := by simpa using h2
  have := h j h1'
  unfold samB at this
  rw [decide_eq_true_iff, ge_eq h1', ge_eq h2'] at this
  simpa using this
theorem all_step2 {p : Nat → Bool} {k : Nat} (h : ∀ j, j < k → p j = true) (hk : p k = true) : ∀ j, j < k + 1 → p j = true := fun j hj => by
  rcases Nat.lt_or_ge j k with h' | h'
  · exact h j h'
  · obtain rfl : j = k := by omega
    exact hk
/-- each fits its 32 bits -/
def WfL (xs : List Nat) : Prop := ∀ j, j < xs.length → ge xs j < 4294967296
set_option maxHeartbeats 1000000 in
theorem l01SameAll_any (A B : Option Addr) (c d : Nat) (xs ys : List Nat) (w : World) (HX : RdF w A xs) (HY : RdF w B ys) (WX : WfL xs) (WY : WfL ys) :
    Calls Try.prog 61 #[.slice A xs.length c, .slice B ys.length d] w fun e w' => e = .returned (.bool (sameLB xs ys)) ∧ ∃ n, w' = w.drewN n := by
  have hm := HX.1
  have HWX := Lib.hid WX
  have HWY := Lib.hid WY
  clear WX WY
  by_cases hl : xs.length = ys.length
  · have hne : ((xs.length : Int) != (ys.length : Int)) = false := by rw [hl]; simp
    have hle : xs.length ≤ ys.length := by omega
    have HL := Lib.hid hl
    clear hl
    go_enter Try.func61, Try.ntmps61
    go_wp2_with fail
    go_loopw [5] (fun i wr => ∃ k n : Nat, k ≤ xs.length ∧ i = .int .i64 k ∧ wr = w.drewN n ∧ Hid (∀ j, j < k → (fun j => samB (ge xs j) (ge ys j)) j = true)) (fun i _ => xs.length - (intOf i).toNat)
    case atStart => exact ⟨0, 0, Nat.zero_le _, rfl, rfl, fun j hj => absurd hj (by omega)⟩
    case round =>
      obtain ⟨k, n, hk, rfl, rfl, hall⟩ := hrel
      by_cases hlt : k < xs.length
      · have hlt2 : k < ys.length := by omega
        have hki : (k : Int) < ys.length := by omega
        have W1 := HWX.out k hlt
        have W2 := HWY.out k hlt2
        obtain ⟨a, rfl, hca⟩ := HX.at_ hlt
        obtain ⟨b, rfl, hcb⟩ := HY.at_ hlt2
        cases h1 : samB (ge xs k) (ge ys k) with
        | false =>
          have HN := Lib.hid (sameLB_no hlt hlt2 h1)
          go_wp2_with fail
          go_quiet ((go_at_call 79; exact quiet_add (l01Same_any _ _ _ W1 W2)))
          go_wp2_with fail
          go_ret
          exact ⟨ret_bool HN.out.symm, _, World.drewN_drewN _ _ _⟩
        | true =>
          have HY1 := Lib.hid h1
          go_wp2_with fail
          go_quiet ((go_at_call 79; exact quiet_add (l01Same_any _ _ _ W1 W2)))
          go_wp2_with fail
          go_roundw
          case rel => exact ⟨k + 1, _, by omega, by go_num, by first | rfl | exact World.drewN_drewN _ _ _, all_step2 (p := fun j => samB (ge xs j) (ge ys j)) hall.out HY1.out⟩
          case measure => simp [intOf]; omega
      · obtain rfl : k = xs.length := by omega
        have HN := Lib.hid (sameLB_yes HL.out hall.out)
        go_wp2_with fail
        go_ret
        exact ⟨ret_bool HN.out.symm, _, rfl⟩
  · have HN := Lib.hid (sameLB_len hl)
    have hne : ((xs.length : Int) != (ys.length : Int)) = true := by simp; omega
    clear hl
    go_enter Try.func61, Try.ntmps61
    go_wp2
    go_ret
    exact ⟨ret_bool HN.out.symm, 0, rfl⟩

theorem eg_sameNumber : ∀ args w, (callFunc 81 args).run Try.prog w = .ok (.enter 81 args) w := by
  intro args w
  kernel_rfl
set_option maxHeartbeats 1000000 in
theorem equalFuncF_any (g : FuncId) (eg : ∀ args w, (callFunc g args).run Try.prog w = .ok (.enter g args) w) (hg : ∀ x y w, Calls Try.prog g #[.float .f32 x, .float .f32 y] w fun e w' => e = .returned (.bool (samB x y)) ∧ ∃ n, w' = w.drewN n)
    (A B : Option Addr) (c d : Nat) (xs ys : List Nat) (w : World) (HX : RdF w A xs) (HY : RdF w B ys) :
    Calls Try.prog 80 #[.slice A xs.length c, .slice B ys.length d, .func (.func g) #[] #[]] w fun e w' => e = .returned (.bool (sameLB xs ys)) ∧ ∃ n, w' = w.drewN n := by
  have hm := HX.1
  have HG := Lib.hid hg
  clear hg
  by_cases hl : xs.length = ys.length
  · have hne : ((xs.length : Int) != (ys.length : Int)) = false := by rw [hl]; simp
    have hle : xs.length ≤ ys.length := by omega
    have HL := Lib.hid hl
    clear hl
    go_enter Try.func80, Try.ntmps80
    go_wp2_with fail
    go_loopw [17] (fun i wr => ∃ k n : Nat, k ≤ xs.length ∧ i = .int .i64 k ∧ wr = w.drewN n ∧ Hid (∀ j, j < k → (fun j => samB (ge xs j) (ge ys j)) j = true)) (fun i _ => xs.length - (intOf i).toNat)
    case atStart => exact ⟨0, 0, Nat.zero_le _, rfl, rfl, fun j hj => absurd hj (by omega)⟩
    case round =>
      obtain ⟨k, n, hk, rfl, rfl, hall⟩ := hrel
      by_cases hlt : k < xs.length
      · have hlt2 : k < ys.length := by omega
        have hki : (k : Int) < ys.length := by omega
        obtain ⟨a, rfl, hca⟩ := HX.at_ hlt
        obtain ⟨b, rfl, hcb⟩ := HY.at_ hlt2
        go_wp2_with fail
        refine (HG.out _ _ _).mono ?_
        rintro e w' ⟨rfl, n', rfl⟩
        cases h1 : samB (ge xs k) (ge ys k) with
        | false =>
          have HN := Lib.hid (sameLB_no hlt hlt2 h1)
          go_wp2_with fail
          go_ret
          first | exact ⟨ret_bool HN.out.symm, _, rfl⟩ | exact ⟨ret_bool HN.out.symm, _, World.drewN_drewN _ _ _⟩
        | true =>
          have HY1 := Lib.hid h1
          go_wp2_with fail
          go_roundw
          case rel => exact ⟨k + 1, _, by omega, by go_num, by first | rfl | exact World.drewN_drewN _ _ _, all_step2 (p := fun j => samB (ge xs j) (ge ys j)) hall.out HY1.out⟩
          case measure => simp [intOf]; omega
      · obtain rfl : k = xs.length := by omega
        have HN := Lib.hid (sameLB_yes HL.out hall.out)
        go_wp2_with fail
        go_ret
        exact ⟨ret_bool HN.out.symm, _, rfl⟩
  · have HN := Lib.hid (sameLB_len hl)
    have hne : ((xs.length : Int) != (ys.length : Int)) = true := by simp; omega
    clear hl
    go_enter Try.func80, Try.ntmps80
    go_wp2
    go_ret
    exact ⟨ret_bool HN.out.symm, 0, rfl⟩
theorem sameList_any (A B : Option Addr) (c d : Nat) (xs ys : List Nat) (w : World) (HX : RdF w A xs) (HY : RdF w B ys) :
    Calls Try.prog 62 #[.slice A xs.length c, .slice B ys.length d] w fun e w' => e = .returned (.bool (sameLB xs ys)) ∧ ∃ n, w' = w.drewN n := by
  have HC := Lib.hid (equalFuncF_any _ eg_sameNumber sameNumber_any A B c d xs ys w HX HY)
  go_enter Try.func62, Try.ntmps62
  go_wp2_with fail
  refine HC.out.mono ?_
  rintro e w' ⟨rfl, n, rfl⟩
  go_wp2_with fail
  go_ret
  exact ⟨rfl, _, rfl⟩
set_option maxHeartbeats 1000000 in
theorem sameCurveI_any (A B A' B' : Option Addr) (c d c' d' : Nat) (xs ts xs' ts' : List Nat) (w : World) (HX : RdF w A xs) (HT : RdF w B ts) (HX' : RdF w A' xs') (HT' : RdF w B' ts') :
    Calls Try.prog 37 #[.agg #[.slice A xs.length c, .slice B ts.length d], .agg #[.slice A' xs'.length c', .slice B' ts'.length d']] w fun e w' => e = .returned (.bool (sameLB xs xs' && sameLB ts ts')) ∧ Below w.heap.size w w' := by
  cases h1 : sameLB xs xs'
  all_goals
    go_enter Try.func37, Try.ntmps37
    go_wp2_with fail
    refine (sameList_any _ _ _ _ xs xs' _ (HX.below (by repeat' (first | (with_reducible exact Below.refl _ _) | (with_reducible assumption) | (with_reducible refine below_drewN ?_ _) | (with_reducible refine Below.drew ?_) | (with_reducible refine below_alloc ?_ _) | (with_reducible refine Below.setCell ?_ ?_ _) | (with_reducible refine below_then ?_ (by assumption)) | omega | (simp; done) | (simp; omega)))) (HX'.below (by repeat' (first | (with_reducible exact Below.refl _ _) | (with_reducible assumption) | (with_reducible refine below_drewN ?_ _) | (with_reducible refine Below.drew ?_) | (with_reducible refine below_alloc ?_ _) | (with_reducible refine Below.setCell ?_ ?_ _) | (with_reducible refine below_then ?_ (by assumption)) | omega | (simp; done) | (simp; omega))))).mono ?_
    rintro e w' ⟨rfl, n, rfl⟩
    go_wp2_with (go_at_call 62; refine (sameList_any _ _ _ _ ts ts' _ (HT.below (by repeat' (first | (with_reducible exact Below.refl _ _) | (with_reducible assumption) | (with_reducible refine below_drewN ?_ _) | (with_reducible refine Below.drew ?_) | (with_reducible refine below_alloc ?_ _) | (with_reducible refine Below.setCell ?_ ?_ _) | (with_reducible refine below_then ?_ (by assumption)) | omega | (simp; done) | (simp; omega)))) (HT'.below (by repeat' (first | (with_reducible exact Below.refl _ _) | (with_reducible assumption) | (with_reducible refine below_drewN ?_ _) | (with_reducible refine Below.drew ?_) | (with_reducible refine below_alloc ?_ _) | (with_reducible refine Below.setCell ?_ ?_ _) | (with_reducible refine below_then ?_ (by assumption)) | omega | (simp; done) | (simp; omega))))).mono ?_; rintro e w' ⟨rfl, n, rfl⟩)
    go_ret
    exact ⟨rfl, (by repeat' (first | (with_reducible exact Below.refl _ _) | (with_reducible assumption) | (with_reducible refine below_drewN ?_ _) | (with_reducible refine Below.drew ?_) | (with_reducible refine below_alloc ?_ _) | (with_reducible refine Below.setCell ?_ ?_ _) | (with_reducible refine below_then ?_ (by assumption)) | omega | (simp; done) | (simp; omega)))⟩
set_option maxHeartbeats 1000000 in
theorem sameCurveS_any (A B A' B' : Option Addr) (c d c' d' : Nat) (xs ts xs' ts' : List Nat) (w : World) (HX : RdF w A xs) (HT : RdF w B ts) (HX' : RdF w A' xs') (HT' : RdF w B' ts') (WX : WfL xs) (WT : WfL ts) (WX' : WfL xs') (WT' : WfL ts') :
    Calls Try.prog 36 #[.agg #[.slice A xs.length c, .slice B ts.length d], .agg #[.slice A' xs'.length c', .slice B' ts'.length d']] w fun e w' => e = .returned (.bool (sameLB xs xs' && sameLB ts ts')) ∧ Below w.heap.size w w' := by
  have W1 := Lib.hid WX
  have W2 := Lib.hid WT
  have W3 := Lib.hid WX'
  have W4 := Lib.hid WT'
  clear WX WT WX' WT'
  cases h1 : sameLB xs xs'
  all_goals
    go_enter Try.func36, Try.ntmps36
    go_wp2_with fail
    refine (l01SameAll_any _ _ _ _ xs xs' _ (HX.below (by repeat' (first | (with_reducible exact Below.refl _ _) | (with_reducible assumption) | (with_reducible refine below_drewN ?_ _) | (with_reducible refine Below.drew ?_) | (with_reducible refine below_alloc ?_ _) | (with_reducible refine Below.setCell ?_ ?_ _) | (with_reducible refine below_then ?_ (by assumption)) | omega | (simp; done) | (simp; omega)))) (HX'.below (by repeat' (first | (with_reducible exact Below.refl _ _) | (with_reducible assumption) | (with_reducible refine below_drewN ?_ _) | (with_reducible refine Below.drew ?_) | (with_reducible refine below_alloc ?_ _) | (with_reducible refine Below.setCell ?_ ?_ _) | (with_reducible refine below_then ?_ (by assumption)) | omega | (simp; done) | (simp; omega)))) W1.out W3.out).mono ?_
    rintro e w' ⟨rfl, n, rfl⟩
    go_wp2_with (go_at_call 61; refine (l01SameAll_any _ _ _ _ ts ts' _ (HT.below (by repeat' (first | (with_reducible exact Below.refl _ _) | (with_reducible assumption) | (with_reducible refine below_drewN ?_ _) | (with_reducible refine Below.drew ?_) | (with_reducible refine below_alloc ?_ _) | (with_reducible refine Below.setCell ?_ ?_ _) | (with_reducible refine below_then ?_ (by assumption)) | omega | (simp; done) | (simp; omega)))) (HT'.below (by repeat' (first | (with_reducible exact Below.refl _ _) | (with_reducible assumption) | (with_reducible refine below_drewN ?_ _) | (with_reducible refine Below.drew ?_) | (with_reducible refine below_alloc ?_ _) | (with_reducible refine Below.setCell ?_ ?_ _) | (with_reducible refine below_then ?_ (by assumption)) | omega | (simp; done) | (simp; omega)))) W2.out W4.out).mono ?_; rintro e w' ⟨rfl, n, rfl⟩)
    go_ret
    exact ⟨rfl, (by repeat' (first | (with_reducible exact Below.refl _ _) | (with_reducible assumption) | (with_reducible refine below_drewN ?_ _) | (with_reducible refine Below.drew ?_) | (with_reducible refine below_alloc ?_ _) | (with_reducible refine Below.setCell ?_ ?_ _) | (with_reducible refine below_then ?_ (by assumption)) | omega | (simp; done) | (simp; omega)))⟩
end Go.Proofs.Ytdkkdohbmpjfdaa
