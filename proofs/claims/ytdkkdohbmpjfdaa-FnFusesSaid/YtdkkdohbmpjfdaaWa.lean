/-
  The small float tests, walked: IsFinite, plusFinite, levelOk and their kin.
-/
import Derived.Test.YtdkkdohbmpjfdaaChecked
import Derived.Test.YtdkkdohbmpjfdaaLb
namespace Go.Proofs.Ytdkkdohbmpjfdaa
open Go.RowKit Go.Fl Go.Lb

/-- 'x - x == 0' -/
def fin (x : Nat) : Bool := cf .f32 (fb .sub .f32 (cn .f32 x) (cn .f32 x)) 0 == some .eq
/-- 'x > 0' -/
def pos (x : Nat) : Bool := cf .f32 x 0 == some .gt
/-- 'x < 0' -/
def ltz (x : Nat) : Bool := cf .f32 x 0 == some .lt
/-- The world has only been drawn from. -/
def Dr (w w' : World) : Prop := ∃ n, w' = w.drewN n
theorem Dr.refl (w : World) : Dr w w := ⟨0, rfl⟩
theorem Dr.add (w : World) (n : Nat) : Dr w (w.drewN n) := ⟨n, rfl⟩

/-- all are finite; one is below 0 -/
def allFin (xs : List Nat) : Bool := !xs.any fun x => !fin x
def anyNeg (xs : List Nat) : Bool := xs.any ltz
def nearB (x : Nat) : Bool := fin x && !ltz x
def plusB (x : Nat) : Bool := fin x && pos x
theorem fin_cn (x : Nat) : fin (cn .f32 x) = fin x := by unfold fin; rw [cn_cn]
theorem pos_cn (x : Nat) : pos (cn .f32 x) = pos x := by unfold pos; rw [cf_cn_left]
theorem ltz_cn (x : Nat) : ltz (cn .f32 x) = ltz x := by unfold ltz; rw [cf_cn_left]
theorem nearB_cn (x : Nat) : nearB (cn .f32 x) = nearB x := by unfold nearB; rw [fin_cn, ltz_cn]
theorem fin_of {r x : Nat} (h : cn .f32 r = fb .sub .f32 (cn .f32 x) (cn .f32 x)) : (cf .f32 r 0 == some .eq) = fin x := by
  unfold fin
  rw [cf_congr (h.trans (cn_fb _ _ _ _).symm) rfl]
theorem fin_not_nan {x : Nat} (h : fin x = true) : isN .f32 x = false := by
  cases hx : isN .f32 x with
  | false => rfl
  | true =>
    exfalso
    unfold fin at h
    have : fb .sub .f32 (cn .f32 x) (cn .f32 x) = qn .f32 := by
      rw [fb_cn_left, fb_cn_right]
      unfold fb floatBits Ieee.Format.sub
      rw [sum_nan_left hx]; rfl
    rw [this, cf_eq, order_nan _ (isN_qn .f32)] at h
    simp at h
theorem ge0_of_fin {x : Nat} (h : fin x = true) : (cf .f32 x 0 == some Ordering.gt || cf .f32 x 0 == some Ordering.eq) = !ltz x := by
  have hn := fin_not_nan h
  unfold ltz
  have h0 : isN .f32 0 = false := by decide +kernel
  obtain ⟨o, ho⟩ := order_some hn h0
  rw [cf_eq, ho]
  cases o <;> rfl
set_option maxHeartbeats 400000 in
theorem isFinite_any (x : Nat) (w : World) :
    Calls Try.prog 75 #[.float .f32 x] w fun e w' => e = .returned (.bool (fin x)) ∧ ∃ n, w' = w.drewN n := by
  go_enter Try.func75, Try.ntmps75
  go_wp2_with (refine wpList_fl rfl _ _ _ _ _ rfl rfl .f32 _ _ rfl rfl ?_; intro r n hr)
  go_ret
  exact ⟨ret_bool (fin_of hr), _, rfl⟩
set_option maxHeartbeats 400000 in
theorem l01Finite_any (x : Nat) (w : World) :
    Calls Try.prog 76 #[.float .f32 x] w fun e w' => e = .returned (.bool (fin x)) ∧ ∃ n, w' = w.drewN n := by
  go_enter Try.func76, Try.ntmps76
  go_wp2_with (refine wpList_fl rfl _ _ _ _ _ rfl rfl .f32 _ _ rfl rfl ?_; intro r n hr)
  go_ret
  exact ⟨ret_bool (fin_of hr), _, rfl⟩
set_option maxHeartbeats 400000 in
theorem finite1_any (x : Nat) (w : World) :
    Calls Try.prog 82 #[.float .f32 x] w fun e w' => e = .returned (.bool (!fin x)) ∧ ∃ n, w' = w.drewN n := by
  go_enter Try.func82, Try.ntmps82
  go_wp2_with (go_at_call 75; refine (isFinite_any _ _).mono ?_; rintro e w' ⟨rfl, n, rfl⟩)
  go_ret
  exact ⟨rfl, _, rfl⟩
set_option maxHeartbeats 400000 in
theorem levelOk1_any (x : Nat) (w : World) :
    Calls Try.prog 74 #[.float .f32 x] w fun e w' => e = .returned (.bool (ltz x)) ∧ ∃ n, w' = w.drewN n := by
  go_enter Try.func74, Try.ntmps74
  go_wp2
  go_ret
  exact ⟨rfl, 0, rfl⟩
set_option maxHeartbeats 400000 in
theorem plusFinite_any (x : Nat) (w : World) :
    Calls Try.prog 51 #[.float .f32 x] w fun e w' => e = .returned (.bool (plusB x)) ∧ ∃ n, w' = w.drewN n := by
  go_enter Try.func51, Try.ntmps51
  go_wp2_with (go_at_call 75; refine (isFinite_any _ _).mono ?_; rintro e w' ⟨rfl, n, rfl⟩)
  all_goals (go_ret; refine ⟨?_, _, rfl⟩; simp_all [pos, plusB])
set_option maxHeartbeats 400000 in
theorem l07Positive_any (x : Nat) (w : World) :
    Calls Try.prog 71 #[.float .f32 x] w fun e w' => e = .returned (.bool (plusB x)) ∧ ∃ n, w' = w.drewN n := by
  go_enter Try.func71, Try.ntmps71
  go_wp2_with (go_at_call 76; refine (l01Finite_any _ _).mono ?_; rintro e w' ⟨rfl, n, rfl⟩)
  all_goals (go_ret; refine ⟨?_, _, rfl⟩; simp_all [pos, plusB])
set_option maxHeartbeats 400000 in
theorem l03Near_any (x : Nat) (w : World) :
    Calls Try.prog 52 #[.float .f32 x] w fun e w' => e = .returned (.bool (nearB x)) ∧ ∃ n, w' = w.drewN n := by
  go_enter Try.func52, Try.ntmps52
  go_wp2_with (go_at_call 76; refine (l01Finite_any _ _).mono ?_; rintro e w' ⟨rfl, n, rfl⟩)
  all_goals (go_ret; refine ⟨?_, _, rfl⟩; simp_all [ge0_of_fin, nearB])

set_option maxHeartbeats 400000 in
theorem indexFuncF_any (g : FuncId) (eg : ∀ args w, (callFunc g args).run Try.prog w = .ok (.enter g args) w) (p : Nat → Bool) (hg : ∀ x w, Calls Try.prog g #[.float .f32 x] w fun e w' => e = .returned (.bool (p x)) ∧ ∃ n, w' = w.drewN n)
    (A : Option Addr) (c : Nat) (xs : List Nat) (w : World) (HR : RdF w A xs) :
    Calls Try.prog 83 #[.slice A xs.length c, .func (.func g) #[] #[]] w fun e w' => e = .returned (.int .i64 (idx p xs)) ∧ ∃ n, w' = w.drewN n := by
  have hm := HR.1
  have HG := Lib.hid hg
  clear hg
  go_enter Try.func83, Try.ntmps83
  go_wp2_with fail
  go_loopw [5, 8] (fun _ i wr => ∃ k n : Nat, k ≤ xs.length ∧ i = .int .i64 k ∧ wr = w.drewN n ∧ Hid (∀ j, j < k → p (ge xs j) = false)) (fun _ i _ => xs.length - (intOf i).toNat)
  case atStart => exact ⟨0, 0, Nat.zero_le _, rfl, rfl, fun j hj => absurd hj (by omega)⟩
  case round =>
    obtain ⟨k, n, hk, rfl, rfl, hno⟩ := hrel
    by_cases hlt : k < xs.length
    · obtain ⟨ad, rfl, hc⟩ := HR.at_ hlt
      go_wp2_with fail
      refine (HG.out _ _).mono ?_
      rintro e w' ⟨rfl, n', rfl⟩
      generalize hp : p (ge xs k) = b
      have HP := Lib.hid hp
      clear hp
      cases b with
      | true =>
        go_wp2_with fail
        go_ret
        exact ⟨ret_int (idx_found hlt hno.out HP.out).symm, _, rfl⟩
      | false =>
        go_wp2_with fail
        go_roundw
        case rel => exact ⟨k + 1, _, by omega, by go_num, rfl, fun j hj => by
          rcases Nat.lt_or_ge j k with h | h
          · exact hno.out j h
          · obtain rfl : j = k := by omega
            exact HP.out⟩
        case measure => simp [intOf]; omega
    · obtain rfl : k = xs.length := by omega
      go_wp2_with fail
      go_ret
      exact ⟨ret_int (idx_none hno.out).symm, _, rfl⟩
set_option maxHeartbeats 400000 in
theorem containsFuncF_any (g : FuncId) (eg : ∀ args w, (callFunc g args).run Try.prog w = .ok (.enter g args) w) (p : Nat → Bool) (hg : ∀ x w, Calls Try.prog g #[.float .f32 x] w fun e w' => e = .returned (.bool (p x)) ∧ ∃ n, w' = w.drewN n)
    (A : Option Addr) (c : Nat) (xs : List Nat) (w : World) (HR : RdF w A xs) :
    Calls Try.prog 73 #[.slice A xs.length c, .func (.func g) #[] #[]] w fun e w' => e = .returned (.bool (xs.any p)) ∧ ∃ n, w' = w.drewN n := by
  have HC := Lib.hid (indexFuncF_any g eg p hg A c xs w HR)
  clear hg
  go_enter Try.func73, Try.ntmps73
  go_wp2_with fail
  refine HC.out.mono ?_
  rintro e w' ⟨rfl, n, rfl⟩
  go_wp2_with fail
  go_ret
  exact ⟨ret_bool (idx_ge p xs), _, rfl⟩
theorem eg_finite1 : ∀ args w, (callFunc 82 args).run Try.prog w = .ok (.enter 82 args) w := by
  intro args w
  kernel_rfl
theorem eg_levelOk1 : ∀ args w, (callFunc 74 args).run Try.prog w = .ok (.enter 74 args) w := by
  intro args w
  kernel_rfl
set_option maxHeartbeats 400000 in
theorem finite_any (A : Option Addr) (c : Nat) (xs : List Nat) (w : World) (HR : RdF w A xs) :
    Calls Try.prog 72 #[.slice A xs.length c] w fun e w' => e = .returned (.bool (allFin xs)) ∧ ∃ n, w' = w.drewN n := by
  have HC := Lib.hid (containsFuncF_any _ eg_finite1 (fun x => !fin x) finite1_any A c xs w HR)
  go_enter Try.func72, Try.ntmps72
  go_wp2_with fail
  refine HC.out.mono ?_
  rintro e w' ⟨rfl, n, rfl⟩
  go_wp2_with fail
  go_ret
  exact ⟨rfl, _, rfl⟩
set_option maxHeartbeats 400000 in
theorem levelOk_any (A : Option Addr) (c : Nat) (xs : List Nat) (w : World) (HR : RdF w A xs) :
    Calls Try.prog 50 #[.slice A xs.length c] w fun e w' => e = .returned (.bool (allFin xs && !anyNeg xs)) ∧ ∃ n, w' = w.drewN n := by
  have HC : ∀ w, RdF w A xs → Hid (Calls _ _ _ w fun e w' => e = .returned (.bool (anyNeg xs)) ∧ ∃ n, w' = w.drewN n) := fun w HR => Lib.hid (containsFuncF_any _ eg_levelOk1 ltz levelOk1_any A c xs w HR)
  have HF := Lib.hid (finite_any A c xs w HR)
  go_enter Try.func50, Try.ntmps50
  go_wp2_with fail
  refine HF.out.mono ?_
  rintro e w' ⟨rfl, n, rfl⟩
  generalize hb : allFin xs = b
  have HB := Lib.hid hb
  clear hb
  cases b
  · go_wp2_with fail
    go_ret
    exact ⟨ret_bool (by rw [HB.out]; rfl), _, rfl⟩
  · go_wp2_with fail
    refine (HC _ (HR.below (below_drewN (Below.refl _ _) _))).out.mono ?_
    rintro e w' ⟨rfl, n, rfl⟩
    go_wp2_with fail
    go_ret
    exact ⟨ret_bool (by rw [HB.out]; rfl), _, rfl⟩
end Go.Proofs.Ytdkkdohbmpjfdaa
