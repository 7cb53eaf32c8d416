/-
  sameFloat, walked: of two numbers that are the same up to which NaN they are, it is true.
-/
import Derived.Test.YtiikjnokoihhgaaChecked
import Derived.Test.YtiikjnokoihhgaaLb
namespace Go.Proofs.Ytiikjnokoihhgaa
open Go.RowKit Go.Fl Go.Lb

theorem isN_zero64 : isN .f64 0 = false := by decide +kernel
set_option maxHeartbeats 400000 in
theorem sameFloat_nan (x y : Nat) (w : World) (hx : isN .f64 x = true) (hy : isN .f64 y = true) :
    Calls Try.prog 28 #[.float .f64 x, .float .f64 y] w fun e w' => e = .returned (.bool true) ∧ ∃ n, w' = w.drewN n := by
  have h1 : cf .f64 x x = none := by rw [cf_eq]; exact order_nan x hx
  have h2 : cf .f64 y y = none := by rw [cf_eq]; exact order_nan y hy
  clear hx hy
  go_enter Try.func28, Try.ntmps28
  go_wp2
  go_ret
  exact ⟨rfl, 0, rfl⟩
set_option maxHeartbeats 400000 in
theorem sameFloat_num (x : Nat) (w : World) (hx : isN .f64 x = false) :
    Calls Try.prog 28 #[.float .f64 x, .float .f64 x] w fun e w' => e = .returned (.bool true) ∧ ∃ n, w' = w.drewN n := by
  have h1 : cf .f64 x x = some .eq := by rw [cf_eq]; exact order_self .f64 hx
  obtain ⟨o, h2⟩ := order_some hx isN_zero64
  rw [← cf_eq] at h2
  clear hx
  cases o
  case eq =>
    go_enter Try.func28, Try.ntmps28
    go_wp2_with (refine wpList_fl rfl _ _ _ _ _ rfl rfl .f64 _ _ rfl rfl ?_; intro r n hr)
    go_ret
    rename_i r1 n1 hr1
    exact ⟨ret_bool (by rw [cf_congr (hr1.trans hr.symm) rfl]; exact beq_self_eq_true _), _, rfl⟩
  all_goals
    go_enter Try.func28, Try.ntmps28
    go_wp2
    go_ret
    exact ⟨rfl, 0, rfl⟩
theorem sameFloat_any (x y : Nat) (w : World) (h : cn .f64 x = cn .f64 y) :
    Calls Try.prog 28 #[.float .f64 x, .float .f64 y] w fun e w' => e = .returned (.bool true) ∧ ∃ n, w' = w.drewN n := by
  by_cases hx : isN .f64 x = true
  · exact sameFloat_nan x y w hx (by rw [← isN_of_cn h]; exact hx)
  · have hx' : isN .f64 x = false := by simpa using hx
    rcases cn_eq h with rfl | ⟨h1, _⟩
    · exact sameFloat_num x w hx'
    · exact absurd h1 hx
theorem sameFloat_wide (x y r q : Nat) (w : World) (h : cn .f32 x = cn .f32 y) (hr : cn .f64 r = wb (cn .f32 x)) (hq : cn .f64 q = wb (cn .f32 y)) :
    Calls Try.prog 28 #[.float .f64 r, .float .f64 q] w fun e w' => e = .returned (.bool true) ∧ ∃ n, w' = w.drewN n :=
  sameFloat_any _ _ w (by rw [hr, hq, h])
end Go.Proofs.Ytiikjnokoihhgaa
