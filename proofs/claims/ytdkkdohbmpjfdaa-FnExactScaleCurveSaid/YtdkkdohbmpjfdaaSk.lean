/-
  A curve's lists scaled: impl.scaled; the marks of a curve.
-/
import Derived.Test.YtdkkdohbmpjfdaaRo
import Derived.Test.YtdkkdohbmpjfdaaCv
namespace Go.Proofs.Ytdkkdohbmpjfdaa
open Go.RowKit Go.Fl Go.Lb

def sc (k x : Nat) : Nat := fb .mul .f32 x k
theorem take_map_step (f : Nat → Nat) (xs : List Nat) {j : Nat} (hj : j < xs.length) : (xs.map f).take (j + 1) = (xs.map f).take j ++ [f (ge xs j)] := by
  rw [List.take_succ_eq_append_getElem (by simpa using hj), ge_eq hj]
  simp
set_option maxHeartbeats 2000000 in
theorem scaled_any (A : Option Addr) (cp : Nat) (xs : List Nat) (x : Nat) (w : World) (HX : RdF w A xs) (hl : xs.length ≤ 1048576) :
    Calls Try.prog 67 #[.slice A xs.length cp, .float .f32 x] w fun e w' => ∃ v qs, e = .returned v ∧ RatOk w w' v qs (xs.map (sc x)) := by
  obtain ⟨i0, hI⟩ := info_parts infoF32
  have HI := Lib.hid hI
  clear hI
  go_enter Try.func67, Try.ntmps67
  go_wp2_with fail
  have HO1 : OwnF (w.alloc (.cells #[] 22)) w.heap.size (.slice (some ⟨w.heap.size, 0, none⟩) 0 0) [] :=
    OwnF.of (xs := []) (ys := []) (Nat.le_refl _) (Blk.new w 22 []) (by simp) (by unfold maxLen; omega) (by simp)
  go_loopw [5, 11] (fun v i wr => ∃ (k : Nat) (qs : List Nat), k ≤ xs.length ∧ i = .int .i64 k ∧ OwnF wr w.heap.size v qs ∧ Below w.heap.size w wr ∧ Hid (qs.length = k ∧ qs.map (cn .f32) = (xs.map (sc x)).take k)) (fun _ i _ => xs.length - (intOf i).toNat)
  case atStart => exact ⟨0, [], by omega, rfl, HO1, (by repeat' (first | (with_reducible exact Below.refl _ _) | (with_reducible assumption) | (with_reducible refine below_drewN ?_ _) | (with_reducible refine Below.drew ?_) | (with_reducible refine below_alloc ?_ _) | (with_reducible refine Below.setCell ?_ ?_ _) | (with_reducible refine below_then ?_ (by assumption)) | omega | (simp; done) | (simp; omega))), ⟨rfl, rfl⟩⟩
  case round =>
    obtain ⟨k, qs, hk, rfl, HO, HW, hq⟩ := hrel
    by_cases hlt : k < xs.length
    · obtain ⟨ad, rfl, hc⟩ := (HX.below HW).at_ hlt
      have HT := Lib.hid (take_map_step (sc x) xs hlt)
      have hki : (k : Int) < xs.length := by omega
      have HSZ := HW.size
      go_wp2_with (at_builtin; generalize hr : fv _ .mul .f32 _ _ = q; have Hr := Lib.hid (show cn .f32 q = sc x (ge xs k) by rw [← hr, cn_fv]; rfl); clear hr; refine wpList_append_own _ rfl _ _ 32 rfl w.heap.size 22 i0 (.float .f32 0) 1 4 Try.underlying32 HI.out.1 HI.out.2.1 HI.out.2.2.1 HI.out.2.2.2 rfl (by decide) _ _ _ rfl (by exact HO.below (by repeat' (first | (with_reducible exact Below.refl _ _) | (with_reducible assumption) | (with_reducible refine below_drewN ?_ _) | (with_reducible refine Below.drew ?_) | (with_reducible refine below_alloc ?_ _) | (with_reducible refine Below.setCell ?_ ?_ _) | (with_reducible refine below_then ?_ (by assumption)) | exact below_then (Below.drew (Below.refl _ _)) (by assumption) | omega | (simp; done) | (simp; omega)))) ⟨wr.heap.size, 0, none⟩ 1 1 [.float .f32 q] rfl rfl (by intro j u hu; match j, hu with | 0, hu => (injection hu with hu; subst hu; rw [Addr.add_zero']; exact Blk.c0 (l := []) (Blk.new _ _ [_]))) (by intro u hu; simp at hu; subst hu; rfl) (by have := hq.out.1; unfold maxLen; omega) (by have := hq.out.1; omega) (by simp; omega) ?_; intro v' w2 hown hgr _; have HO2 : OwnF w2 w.heap.size v' (qs ++ [q]) := (by unfold OwnF; simpa using hown); have HW2 : Below w.heap.size w w2 := Below.grown (by exact (by repeat' (first | (with_reducible exact Below.refl _ _) | (with_reducible assumption) | (with_reducible refine below_drewN ?_ _) | (with_reducible refine Below.drew ?_) | (with_reducible refine below_alloc ?_ _) | (with_reducible refine Below.setCell ?_ ?_ _) | (with_reducible refine below_then ?_ (by assumption)) | exact below_then (Below.drew (Below.refl _ _)) (by assumption) | omega | (simp; done) | (simp; omega)))) hgr (by simp; omega) (fun k hk => (HO.lt k hk).1); clear hown hgr)
      go_roundw
      case rel => exact ⟨k + 1, qs ++ [q], by omega, by go_num, HO2, HW2, ⟨by simp [hq.out.1], by rw [List.map_append, hq.out.2, HT.out]; simp [Hr.out]⟩⟩
      case measure => simp [intOf]; omega
    · obtain rfl : k = xs.length := by omega
      have HE := Lib.hid (hq.out.2.trans (List.take_of_length_le (by simp)))
      go_wp2_with fail
      go_ret
      exact ⟨_, qs, rfl, HO, HE.out, HW⟩
end Go.Proofs.Ytdkkdohbmpjfdaa
