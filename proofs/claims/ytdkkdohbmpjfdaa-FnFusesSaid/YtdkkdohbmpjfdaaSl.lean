/-
  The law's own helpers over lists of float32s: a copy; that two are the same.
-/
import Derived.Test.YtdkkdohbmpjfdaaChecked
import Derived.Test.YtdkkdohbmpjfdaaLb
import Derived.Test.YtdkkdohbmpjfdaaSf
namespace Go.Proofs.Ytdkkdohbmpjfdaa
open Go.RowKit Go.Fl Go.Lb Go.Deep

theorem infoF32 : (Try.prog.info? 22).map (fun i => (i.zero, i.size, i.bytes)) = some (some (.float .f32 0), 1, 4) := by kernel_rfl
set_option maxHeartbeats 400000 in
theorem toFloat32S_any (A : Option Addr) (c : Nat) (xs : List Nat) (w : World) (HR : RdF w A xs) (hl : xs.length ≤ 1048576) :
    Calls Try.prog 24 #[.slice A xs.length c] w fun e w' => ∃ g, e = .returned (.slice (some ⟨g, 0, none⟩) xs.length xs.length) ∧ Blk w' g 22 (xs.map fv32) ∧ w.heap.size ≤ g ∧ Below w.heap.size w w' := by
  have hmk : ∀ W : World, (Instr.makeSlice 32 (.int .i64 (xs.length : Int)) (.int .i64 (xs.length : Int))).run Try.prog W = .ok (.slice (some ⟨W.heap.size, 0, none⟩) xs.length xs.length) (W.alloc (.cells (fillL fv32 (.float .f32 0) xs 0).toArray 22)) := fun W => by
    rw [run_make_row' (P := Try.prog) 32 22 (.float .f32 0) 4 Try.underlying32 infoF32 rfl .i64 .i64 xs.length (by omega) (by omega) W, made_one, fillL_zero]
  go_enter Try.func24, Try.ntmps24
  go_wp2_with fail
  go_loopw [4] (fun i wr => ∃ k : Nat, k ≤ xs.length ∧ i = .int .i64 k ∧ Blk wr w.heap.size 22 (fillL fv32 (.float .f32 0) xs k) ∧ Below w.heap.size w wr) (fun i _ => xs.length - (intOf i).toNat)
  case atStart => exact ⟨0, Nat.zero_le _, rfl, Blk.new _ _ _, (by repeat' (first | (with_reducible exact Below.refl _ _) | (with_reducible assumption) | (with_reducible refine below_drewN ?_ _) | (with_reducible refine Below.drew ?_) | (with_reducible refine below_alloc ?_ _) | (with_reducible refine Below.setCell ?_ ?_ _) | (with_reducible refine below_then ?_ (by assumption)) | omega | (simp; done) | (simp; omega)))⟩
  case round =>
    obtain ⟨k, hk, rfl, HB, HW⟩ := hrel
    by_cases hlt : k < xs.length
    · obtain ⟨ad, rfl, hc⟩ := (HR.below HW).at_ hlt
      have d0 : wr.cell? ⟨w.heap.size, k, none⟩ = some (.float .f32 0) := by rw [HB.cell]; exact fillL_at _ _ _ hlt
      have z0 := HB.frozen k
      have HS := HB.set k (fv32 xs[k])
      rw [fillL_set _ _ _ hlt] at HS
      have HW' := HW.setCell (p := ⟨w.heap.size, k, none⟩) (Nat.le_refl _) (fv32 xs[k])
      rw [ge_eq hlt] at hc
      go_wp2_with fail
      go_roundw
      case rel => exact ⟨k + 1, by omega, by go_num, HS, HW'⟩
      case measure => simp [intOf]; omega
    · obtain rfl : k = xs.length := by omega
      go_wp2_with fail
      go_ret
      rw [fillL_full] at HB
      exact ⟨_, rfl, HB, Nat.le_refl _, HW⟩
set_option maxHeartbeats 1000000 in
theorem eqFloat32S_any (A B : Option Addr) (c d : Nat) (xs ys : List Nat) (w : World) (HX : RdF w A xs) (HY : RdF w B ys) (hs : SameL xs ys) :
    Calls Try.prog 25 #[.slice A xs.length c, .slice B ys.length d] w fun e w' => e = .returned (.bool true) ∧ ∃ n, w' = w.drewN n := by
  have hm := HX.1
  have HS : Hid (SameL xs ys) := hs
  have hlen : Hid (xs.length = ys.length) := hs.length
  have hb : (((xs.length : Int) != (ys.length : Int))) = false := by rw [hs.length]; simp
  clear hs
  go_enter Try.func25, Try.ntmps25
  go_wp2_with fail
  go_loopw [5] (fun i wr => ∃ k n : Nat, k ≤ xs.length ∧ i = .int .i64 k ∧ wr = w.drewN n) (fun i _ => xs.length - (intOf i).toNat)
  case atStart => exact ⟨0, 0, Nat.zero_le _, rfl, rfl⟩
  case round =>
    obtain ⟨k, n, hk, rfl, rfl⟩ := hrel
    by_cases hlt : k < xs.length
    · have hlt2 : k < ys.length := by rw [← hlen.out]; exact hlt
      obtain ⟨a, rfl, hca⟩ := HX.at_ hlt
      obtain ⟨b, rfl, hcb⟩ := HY.at_ hlt2
      have hc := Lib.hid (HS.out.at_ hlt)
      generalize ge xs k = x at hc hca
      generalize ge ys k = y at hc hcb
      have hkm : (k : Int) < ys.length := by omega
      cases hn : isN .f32 x with
      | false =>
        obtain rfl : x = y := by
          rcases cn_eq hc.out with h | ⟨h, _⟩
          · exact h
          · rw [hn] at h; cases h
        go_wp2_with fail
        go_quiet ((go_at_call 40; exact quiet_add (sameFloat_any _ _ _ rfl)))
        go_wp2_with fail
        go_roundw
        case rel => exact ⟨k + 1, _, by omega, by go_num, rfl⟩
        case measure => simp [intOf]; omega
      | true =>
        have hn' : isN .f32 y = true := by rw [← isN_of_cn hc.out]; exact hn
        have g1 : ∀ W, isN .f64 (wv W x) = true := fun W => by rw [← isN_cn, cn_wv]; unfold wb; rw [hn]; exact isN_qn .f64
        have g2 : ∀ W, isN .f64 (wv W y) = true := fun W => by rw [← isN_cn, cn_wv]; unfold wb; rw [hn']; exact isN_qn .f64
        have G1 := Lib.hid g1
        have G2 := Lib.hid g2
        clear g1 g2 hn hn'
        go_wp2_with fail
        go_region_with (go_at_call 40; refine (sameFloat_nan _ _ _ (G1.out _) (G2.out _)).mono ?_; rintro e w' ⟨rfl, n, rfl⟩)
        all_goals
          go_wp2_with fail
          go_roundw
          case rel => exact ⟨k + 1, _, by omega, by go_num, rfl⟩
          case measure => simp [intOf]; omega
    · obtain rfl : k = xs.length := by omega
      go_wp2_with fail
      go_ret
      exact ⟨rfl, _, rfl⟩
end Go.Proofs.Ytdkkdohbmpjfdaa
