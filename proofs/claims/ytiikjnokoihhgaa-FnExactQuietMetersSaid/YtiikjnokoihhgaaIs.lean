/-
  The law's own helpers over lists of int64s: a copy; that two are the same; their size.
-/
import Derived.Test.YtiikjnokoihhgaaChecked
import Derived.Test.YtiikjnokoihhgaaLi
namespace Go.Proofs.Ytiikjnokoihhgaa
open Go.RowKit Go.Fl Go.Lb Go.Deep

theorem infoI64 : (Try.prog.info? 2).map (fun i => (i.zero, i.size, i.bytes)) = some (some (.int .i64 0), 1, 8) := by kernel_rfl
set_option maxHeartbeats 400000 in
theorem toInt64S_any (A : Option Addr) (c : Nat) (xs : List Int) (w : World) (HR : RdI w A xs) (hl : xs.length ≤ 1048576) :
    Calls Try.prog 24 #[.slice A xs.length c] w fun e w' => ∃ g, e = .returned (.slice (some ⟨g, 0, none⟩) xs.length xs.length) ∧ Blk w' g 2 (xs.map iv) ∧ w.heap.size ≤ g ∧ Below w.heap.size w w' := by
  have hmk : ∀ W : World, (Instr.makeSlice 22 (.int .i64 (xs.length : Int)) (.int .i64 (xs.length : Int))).run Try.prog W = .ok (.slice (some ⟨W.heap.size, 0, none⟩) xs.length xs.length) (W.alloc (.cells (fillL iv (.int .i64 0) xs 0).toArray 2)) := fun W => by
    rw [run_make_row' (P := Try.prog) 22 2 (.int .i64 0) 8 Try.underlying22 infoI64 rfl .i64 .i64 xs.length (by omega) (by omega) W, made_one, fillL_zero]
  go_enter Try.func24, Try.ntmps24
  go_wp2_with fail
  go_loopw [4] (fun i wr => ∃ k : Nat, k ≤ xs.length ∧ i = .int .i64 k ∧ Blk wr w.heap.size 2 (fillL iv (.int .i64 0) xs k) ∧ Below w.heap.size w wr) (fun i _ => xs.length - (intOf i).toNat)
  case atStart => exact ⟨0, Nat.zero_le _, rfl, Blk.new _ _ _, (by repeat' (first | (with_reducible exact Below.refl _ _) | (with_reducible assumption) | (with_reducible refine below_drewN ?_ _) | (with_reducible refine Below.drew ?_) | (with_reducible refine below_alloc ?_ _) | (with_reducible refine Below.setCell ?_ ?_ _) | (with_reducible refine below_then ?_ (by assumption)) | omega | (simp; done) | (simp; omega)))⟩
  case round =>
    obtain ⟨k, hk, rfl, HB, HW⟩ := hrel
    by_cases hlt : k < xs.length
    · obtain ⟨ad, rfl, hc⟩ := (HR.below HW).at_ hlt
      have d0 : wr.cell? ⟨w.heap.size, k, none⟩ = some (.int .i64 0) := by rw [HB.cell]; exact fillL_at _ _ _ hlt
      have z0 := HB.frozen k
      have HS := HB.set k (iv xs[k])
      rw [fillL_set _ _ _ hlt] at HS
      have HW' := HW.setCell (p := ⟨w.heap.size, k, none⟩) (Nat.le_refl _) (iv xs[k])
      rw [gi_eq hlt] at hc
      go_wp2_with fail
      go_roundw
      case rel => exact ⟨k + 1, by omega, by go_num, HS, HW'⟩
      case measure => simp [intOf]; omega
    · obtain rfl : k = xs.length := by omega
      go_wp2_with fail
      go_ret
      rw [fillL_full] at HB
      exact ⟨_, rfl, HB, Nat.le_refl _, HW⟩
set_option maxHeartbeats 1000000 in
theorem eqInt64S_any (A B : Option Addr) (c d : Nat) (xs : List Int) (w : World) (HX : RdI w A xs) (HY : RdI w B xs) :
    Calls Try.prog 19 #[.slice A xs.length c, .slice B xs.length d] w fun e w' => e = .returned (.bool true) ∧ ∃ n, w' = w.drewN n := by
  have hm := HX.1
  go_enter Try.func19, Try.ntmps19
  go_wp2_with fail
  go_loopw [5] (fun i wr => ∃ k n : Nat, k ≤ xs.length ∧ i = .int .i64 k ∧ wr = w.drewN n) (fun i _ => xs.length - (intOf i).toNat)
  case atStart => exact ⟨0, 0, Nat.zero_le _, rfl, rfl⟩
  case round =>
    obtain ⟨k, n, hk, rfl, rfl⟩ := hrel
    by_cases hlt : k < xs.length
    · obtain ⟨a, rfl, hca⟩ := HX.at_ hlt
      obtain ⟨b, rfl, hcb⟩ := HY.at_ hlt
      generalize gi xs k = x at hca hcb
      go_wp2_with fail
      go_quiet (fail)
      go_wp2_with fail
      go_roundw
      case rel => exact ⟨k + 1, _, by omega, by go_num, rfl⟩
      case measure => simp [intOf]; omega
    · obtain rfl : k = xs.length := by omega
      go_wp2_with fail
      go_ret
      exact ⟨rfl, _, rfl⟩
def szM (left n : Int) : Int := if left - n < 0 then -1 else left - n
theorem szM_le {left n : Int} (_hn : 0 ≤ n) : szM left n < 0 ∨ (szM left n = left - n ∧ 0 ≤ left - n) := by
  unfold szM
  split
  · exact .inl (by omega)
  · exact .inr ⟨rfl, by omega⟩
set_option maxHeartbeats 400000 in
theorem szInt64S_any (A : Option Addr) (c n : Nat) (left : Int) (w : World) (hn : n ≤ 9223372036854775807) (h0 : 0 ≤ left) (h1 : left ≤ 1048576) :
    Calls Try.prog 37 #[.slice A n c, .int .i64 left] w fun e w' => e = .returned (.int .i64 (szM left n)) ∧ w = w' := by
  by_cases h : left - (n : Int) < 0
  · have e1 : szM left n = -1 := if_pos h
    rw [e1]
    go_enter Try.func37, Try.ntmps37
    go_wp2_with fail
    go_ret
    exact ⟨rfl, rfl⟩
  · have e1 : szM left n = left - n := if_neg h
    rw [e1]
    go_enter Try.func37, Try.ntmps37
    go_wp2_with fail
    go_ret
    exact ⟨rfl, rfl⟩
end Go.Proofs.Ytiikjnokoihhgaa
