/-
  Totals; UseOf of the program and of the reference; the law FnExactUseOf, walked.
-/
import Derived.Test.YtiikjnokoihhgaaUs
import Derived.Deep.DeepCutAuto
namespace Go.Proofs.Ytiikjnokoihhgaa
open Go.RowKit Go.Fl Go.Lb

def psum (xs : List Int) (k : Nat) : Int := (xs.take k).sum
theorem psum_step {xs : List Int} {k : Nat} (h : k < xs.length) : psum xs (k + 1) = psum xs k + gi xs k := by
  unfold psum
  rw [List.take_succ_eq_append_getElem h, List.sum_append, gi_eq h]
  simp
theorem psum_full (xs : List Int) : psum xs xs.length = xs.sum := by simp [psum]
/-- each number is from 0 to 10^9 -/
def small (xs : List Int) : Prop := ∀ j, j < xs.length → 0 ≤ gi xs j ∧ gi xs j ≤ 1000000000
theorem psum_bound {xs : List Int} (h : small xs) : ∀ k, k ≤ xs.length → 0 ≤ psum xs k ∧ psum xs k ≤ k * 1000000000 := by
  intro k
  induction k with
  | zero => intro _; simp [psum]
  | succ k ih =>
    intro hk
    have h1 := ih (by omega)
    have h2 := h k (by omega)
    rw [psum_step (by omega)]
    omega
theorem gi_uses {d : Nat} {xs : List Int} {j : Nat} (h : j < (uses d xs).length) : gi (uses d xs) j = useAt d xs (j + 1) := by
  rw [gi_eq h]
  simp [uses]
theorem uses_small {d : Nat} {xs : List Int} (hd : d ≤ 9) (h : readsOk d xs = true) : small (uses d xs) := by
  intro j hj
  rw [gi_uses hj]
  rw [uses_length] at hj
  have h1 := read_bounds h (show j + 1 < xs.length by omega)
  have h2 := read_bounds h (show j < xs.length by omega)
  have hp9 : pw d ≤ pw 9 := pw_le hd
  rw [pw_9] at hp9
  unfold useAt
  rw [show j + 1 - 1 = j by omega]
  split <;> omega
theorem validM_yes {z : Int} {xs : List Int} (h : validM z xs = true) : ∃ d : Nat, z = d ∧ 1 ≤ d ∧ d ≤ 9 ∧ xs.length ≤ 256 ∧ readsOk d xs = true := by
  unfold validM at h
  simp only [Bool.and_eq_true, decide_eq_true_eq] at h
  obtain ⟨d, rfl, h1, h2⟩ := digits_of h.1.1
  exact ⟨d, rfl, h1, h2, h.1.2, by simpa using h.2⟩
set_option maxHeartbeats 400000 in
theorem l09Total_any (A : Option Addr) (c : Nat) (xs : List Int) (w : World) (HX : RdI w A xs) (hs : small xs) (hn : xs.length ≤ 256) :
    Calls Try.prog 43 #[.slice A xs.length c] w fun e w' => e = .returned (.int .i64 xs.sum) ∧ w = w' := by
  have HS := Lib.hid hs
  clear hs
  go_enter Try.func43, Try.ntmps43
  go_wp2_with fail
  go_loopw [3, 7] (fun n i wr => ∃ (k : Nat) (s : Int), k ≤ xs.length ∧ i = .int .i64 k ∧ n = .int .i64 s ∧ Hid (s = psum xs k) ∧ wr = w) (fun _ i _ => xs.length - (intOf i).toNat)
  case atStart => exact ⟨0, 0, Nat.zero_le _, rfl, rfl, rfl, rfl⟩
  case round =>
    obtain ⟨k, s, hk, rfl, rfl, hsum, rfl⟩ := hrel
    by_cases hlt : k < xs.length
    · obtain ⟨ad, rfl, hc⟩ := HX.at_ hlt
      obtain ⟨b1, b2⟩ := psum_bound HS.out k hk
      rw [← hsum.out] at b1 b2
      obtain ⟨b3, b4⟩ := HS.out k hlt
      have HT : Hid (s + gi xs k = psum xs (k + 1)) := by show _ = _; rw [psum_step hlt, ← hsum.out]
      go_wp2_with fail
      go_roundw
      case rel => exact ⟨k + 1, s + gi xs k, by omega, by go_num, by go_num, HT, by trivial⟩
      case measure => simp [intOf]; omega
    · obtain rfl : k = xs.length := by omega
      have hs' := Lib.hid (hsum.out.trans (psum_full xs))
      go_wp2_with fail
      go_ret
      exact ⟨ret_int hs'.out, rfl⟩
set_option maxHeartbeats 400000 in
theorem summed_any (A : Option Addr) (c : Nat) (xs : List Int) (w : World) (HX : RdI w A xs) (hs : small xs) (hn : xs.length ≤ 256) :
    Calls Try.prog 45 #[.slice A xs.length c] w fun e w' => e = .returned (.int .i64 xs.sum) ∧ w = w' := by
  have HS := Lib.hid hs
  clear hs
  go_enter Try.func45, Try.ntmps45
  go_wp2_with fail
  go_loopw [3, 8] (fun n i wr => ∃ (k : Nat) (s : Int), k ≤ xs.length ∧ i = .int .i64 k ∧ n = .int .i64 s ∧ Hid (s = psum xs k) ∧ wr = w) (fun _ i _ => xs.length - (intOf i).toNat)
  case atStart => exact ⟨0, 0, Nat.zero_le _, rfl, rfl, rfl, rfl⟩
  case round =>
    obtain ⟨k, s, hk, rfl, rfl, hsum, rfl⟩ := hrel
    by_cases hlt : k < xs.length
    · obtain ⟨ad, rfl, hc⟩ := HX.at_ hlt
      obtain ⟨b1, b2⟩ := psum_bound HS.out k hk
      rw [← hsum.out] at b1 b2
      obtain ⟨b3, b4⟩ := HS.out k hlt
      have HT : Hid (s + gi xs k = psum xs (k + 1)) := by show _ = _; rw [psum_step hlt, ← hsum.out]
      go_wp2_with fail
      go_roundw
      case rel => exact ⟨k + 1, s + gi xs k, by omega, by go_num, by go_num, HT, by trivial⟩
      case measure => simp [intOf]; omega
    · obtain rfl : k = xs.length := by omega
      have hs' := Lib.hid (hsum.out.trans (psum_full xs))
      go_wp2_with fail
      go_ret
      exact ⟨ret_int hs'.out, rfl⟩
/-- what a meter counted in all -/
def useR (z : Int) (xs : List Int) : Int := if validM z xs then (uses z.toNat xs).sum else 0
theorem useR_no {z : Int} {xs : List Int} (h : validM z xs = false) : useR z xs = 0 := by unfold useR; rw [h]; rfl
theorem useR_yes {d : Nat} {xs : List Int} (h : validM d xs = true) : useR d xs = (uses d xs).sum := by unfold useR; rw [h]; rfl
theorem uses_le (d : Nat) {xs : List Int} (hn : xs.length ≤ 256) : (uses d xs).length ≤ 256 := by rw [uses_length]; omega
theorem ret_pair {a b : Int} {s t : Bool} (h : a = b) (h' : s = t) : Ending.returned (.tuple #[.int .i64 a, .bool s]) = .returned (.tuple #[.int .i64 b, .bool t]) := by rw [h, h']
set_option maxHeartbeats 1000000 in
theorem useOfS_any (A : Option Addr) (c : Nat) (z : Int) (xs : List Int) (w : World) (HX : RdI w A xs) :
    Calls Try.prog 15 #[meterV z A xs.length c] w fun e w' => e = .returned (.tuple #[.int .i64 (useR z xs), .bool (validM z xs)]) ∧ Below w.heap.size w w' := by
  cases hv : validM z xs with
  | false =>
    have HR := Lib.hid (useR_no hv)
    have HV := Lib.hid hv
    clear hv
    go_enter Try.func15, Try.ntmps15
    go_wp2_with fail
    refine (l09Meter_any _ 0 A c z xs _ (by go_simp) (by go_simp) (HX.below (by repeat' (first | (with_reducible exact Below.refl _ _) | (with_reducible assumption) | (with_reducible refine below_drewN ?_ _) | (with_reducible refine Below.drew ?_) | (with_reducible refine below_alloc ?_ _) | (with_reducible refine Below.setCell ?_ ?_ _) | (with_reducible refine below_then ?_ (by assumption)) | omega | (simp; done) | (simp; omega))))).mono ?_
    rintro e w' ⟨rfl, rfl⟩
    rw [HV.out]
    go_wp2_with fail
    exact bodyPost_ret (v := .tuple #[.int .i64 0, .bool false]) (by simp only [results, Try.results15]; go_simp) rfl ⟨ret_pair HR.out.symm rfl, (by repeat' (first | (with_reducible exact Below.refl _ _) | (with_reducible assumption) | (with_reducible refine below_drewN ?_ _) | (with_reducible refine Below.drew ?_) | (with_reducible refine below_alloc ?_ _) | (with_reducible refine Below.setCell ?_ ?_ _) | (with_reducible refine below_then ?_ (by assumption)) | omega | (simp; done) | (simp; omega)))⟩
  | true =>
    obtain ⟨d, rfl, hd1, hd, hn, hr⟩ := validM_yes hv
    have HR := Lib.hid (useR_yes hv)
    have HV := Lib.hid hv
    have HRD := Lib.hid hr
    clear hv hr
    go_enter Try.func15, Try.ntmps15
    go_wp2_with fail
    refine (l09Meter_any _ 0 A c d xs _ (by go_simp) (by go_simp) (HX.below (by repeat' (first | (with_reducible exact Below.refl _ _) | (with_reducible assumption) | (with_reducible refine below_drewN ?_ _) | (with_reducible refine Below.drew ?_) | (with_reducible refine below_alloc ?_ _) | (with_reducible refine Below.setCell ?_ ?_ _) | (with_reducible refine below_then ?_ (by assumption)) | omega | (simp; done) | (simp; omega))))).mono ?_
    rintro e w' ⟨rfl, rfl⟩
    rw [HV.out]
    go_wp2_with fail
    refine (l09Uses_any _ 0 d A c xs _ (by go_simp) (by go_simp) (HX.below (by repeat' (first | (with_reducible exact Below.refl _ _) | (with_reducible assumption) | (with_reducible refine below_drewN ?_ _) | (with_reducible refine Below.drew ?_) | (with_reducible refine below_alloc ?_ _) | (with_reducible refine Below.setCell ?_ ?_ _) | (with_reducible refine below_then ?_ (by assumption)) | omega | (simp; done) | (simp; omega)))) hd HRD.out hn).mono ?_
    rintro e w1 ⟨v, rfl, HO, hb1⟩
    obtain ⟨A', c', rfl, HU⟩ := HO.rdI
    go_wp2_with fail
    refine (l09Total_any A' c' (uses d xs) _ HU (uses_small hd HRD.out) (uses_le d hn)).mono ?_
    rintro e w' ⟨rfl, rfl⟩
    go_wp2_with fail
    exact bodyPost_ret (v := .tuple #[.int .i64 (uses d xs).sum, .bool true]) (by simp only [results, Try.results15]; go_simp) rfl ⟨ret_pair HR.out.symm rfl, (by repeat' (first | (with_reducible exact Below.refl _ _) | (with_reducible assumption) | (with_reducible refine below_drewN ?_ _) | (with_reducible refine Below.drew ?_) | (with_reducible refine below_alloc ?_ _) | (with_reducible refine Below.setCell ?_ ?_ _) | (with_reducible refine below_then ?_ (by assumption)) | omega | (simp; done) | (simp; omega)))⟩
set_option maxHeartbeats 1000000 in
theorem useOfI_any (A : Option Addr) (c : Nat) (z : Int) (xs : List Int) (w : World) (HX : RdI w A xs) :
    Calls Try.prog 16 #[meterV z A xs.length c] w fun e w' => e = .returned (.tuple #[.int .i64 (useR z xs), .bool (validM z xs)]) ∧ Below w.heap.size w w' := by
  cases hv : validM z xs with
  | false =>
    have HR := Lib.hid (useR_no hv)
    have HV := Lib.hid hv
    clear hv
    go_enter Try.func16, Try.ntmps16
    go_wp2_with fail
    (refine (validMeterI_any A c z xs _ (HX.below (by repeat' (first | (with_reducible exact Below.refl _ _) | (with_reducible assumption) | (with_reducible refine below_drewN ?_ _) | (with_reducible refine Below.drew ?_) | (with_reducible refine below_alloc ?_ _) | (with_reducible refine Below.setCell ?_ ?_ _) | (with_reducible refine below_then ?_ (by assumption)) | omega | (simp; done) | (simp; omega))))).mono ?_; rintro e w1 ⟨rfl, hb1⟩; rw [HV.out]; have hz1 := hb1.size; (try simp at hz1); obtain ⟨hc1_0, hf1_0, hx1_0⟩ := bcell0 hb1 w.heap.size (by first | assumption | omega | (simp; done) | (simp; omega)))
    go_wp2_with fail
    exact bodyPost_ret (v := .tuple #[.int .i64 0, .bool false]) (by simp only [results, Try.results16]; go_simp) rfl ⟨ret_pair HR.out.symm rfl, (by repeat' (first | (with_reducible exact Below.refl _ _) | (with_reducible assumption) | (with_reducible refine below_drewN ?_ _) | (with_reducible refine Below.drew ?_) | (with_reducible refine below_alloc ?_ _) | (with_reducible refine Below.setCell ?_ ?_ _) | (with_reducible refine below_then ?_ (by assumption)) | omega | (simp; done) | (simp; omega)))⟩
  | true =>
    obtain ⟨d, rfl, hd1, hd, hn, hr⟩ := validM_yes hv
    have HR := Lib.hid (useR_yes hv)
    have HV := Lib.hid hv
    have HRD := Lib.hid hr
    clear hv hr
    go_enter Try.func16, Try.ntmps16
    go_wp2_with fail
    (refine (validMeterI_any A c d xs _ (HX.below (by repeat' (first | (with_reducible exact Below.refl _ _) | (with_reducible assumption) | (with_reducible refine below_drewN ?_ _) | (with_reducible refine Below.drew ?_) | (with_reducible refine below_alloc ?_ _) | (with_reducible refine Below.setCell ?_ ?_ _) | (with_reducible refine below_then ?_ (by assumption)) | omega | (simp; done) | (simp; omega))))).mono ?_; rintro e w1 ⟨rfl, hb1⟩; rw [HV.out]; have HX1 : RdI w1 A xs := (HX.below (below_alloc (Below.refl _ _) _)).below hb1; have hz1 := hb1.size; (try simp at hz1); obtain ⟨hc1_0, hf1_0, hx1_0⟩ := bcell0 hb1 w.heap.size (by first | assumption | omega | (simp; done) | (simp; omega)))
    go_wp2_with fail
    refine (usesI_any w.heap.size 0 d A c xs _ (by rw [hc1_0]; go_simp) (by rw [hc1_0]; go_simp) HX1 hd HRD.out hn).mono ?_
    rintro e w2 ⟨v, rfl, HO, hb2⟩
    obtain ⟨A', c', rfl, HU⟩ := HO.rdI
    go_wp2_with fail
    refine (summed_any A' c' (uses d xs) _ HU (uses_small hd HRD.out) (uses_le d hn)).mono ?_
    rintro e w' ⟨rfl, rfl⟩
    go_wp2_with fail
    exact bodyPost_ret (v := .tuple #[.int .i64 (uses d xs).sum, .bool true]) (by simp only [results, Try.results16]; go_simp) rfl ⟨ret_pair HR.out.symm rfl, (by repeat' (first | (with_reducible exact Below.refl _ _) | (with_reducible assumption) | (with_reducible refine below_drewN ?_ _) | (with_reducible refine Below.drew ?_) | (with_reducible refine below_alloc ?_ _) | (with_reducible refine Below.setCell ?_ ?_ _) | (with_reducible refine below_then ?_ (by assumption)) | omega | (simp; done) | (simp; omega)))⟩
set_option maxHeartbeats 1000000 in
theorem fnExactUseOf_walk (A : Option Addr) (c : Nat) (z : Int) (xs : List Int) (w : World) (HX : RdI w A xs) :
    Calls Try.prog 4 #[meterV z A xs.length c] w fun e w' => e = .returned (.bool true) ∧ Below w.heap.size w w' := by
  have hm := HX.1
  rcases szM_le (left := 1048576) (n := xs.length) (by omega) with hz | ⟨hz, hz1⟩
  · go_enter Try.func4, Try.ntmps4
    go_wp2_with fail
    (refine (szMeter_any _ _ _ _ _ _ hm (by omega) (by omega)).mono ?_; rintro e w1 ⟨rfl, hb1⟩; have hz1 := hb1.size; (try simp at hz1))
    go_wp2_with fail
    go_ret
    exact ⟨rfl, (by repeat' (first | (with_reducible exact Below.refl _ _) | (with_reducible assumption) | (with_reducible refine below_drewN ?_ _) | (with_reducible refine Below.drew ?_) | (with_reducible refine below_alloc ?_ _) | (with_reducible refine Below.setCell ?_ ?_ _) | (with_reducible refine below_then ?_ (by assumption)) | omega | (simp; done) | (simp; omega)))⟩
  · have hl : xs.length ≤ 1048576 := by omega
    have HZ := Lib.hid hz
    go_enter Try.func4, Try.ntmps4
    clear hz
    go_wp2_with fail
    (refine (szMeter_any _ _ _ _ _ _ hm (by omega) (by omega)).mono ?_; rintro e w1 ⟨rfl, hb1⟩; rw [HZ.out]; have HX1 := (HX.below (below_alloc (Below.refl _ _) _)).below hb1; have hz1 := hb1.size; (try simp at hz1); obtain ⟨hc1_0, hf1_0, hx1_0⟩ := bcell0 hb1 w.heap.size (by first | assumption | omega | (simp; done) | (simp; omega)))
    go_wp2_with fail
    (refine (toMeter_any _ _ z xs _ HX1 hl).mono ?_; rintro e w2 ⟨g, rfl, G, hg, hb2⟩; have HX2 := HX1.below hb2; have GX := G.rdI hm; have hz2 := hb2.size; (try simp at hz2); obtain ⟨hc2_0, hf2_0, hx2_0⟩ := bcell0 hb2 w.heap.size (by first | assumption | omega | (simp; done) | (simp; omega)))
    go_wp2_with fail
    (refine (useOfS_any _ _ z xs _ GX).mono ?_; rintro e w3 ⟨rfl, hb3⟩; have HX3 := HX2.below hb3; have hz3 := hb3.size; (try simp at hz3); obtain ⟨hc3_0, hf3_0, hx3_0⟩ := bcell0 hb3 w.heap.size (by first | assumption | omega | (simp; done) | (simp; omega)))
    go_wp2_with fail
    (refine (toMeter_any _ _ z xs _ HX3 hl).mono ?_; rintro e w4 ⟨g', rfl, G', hg', hb4⟩; have HX4 := HX3.below hb4; have GX' := G'.rdI hm; have hz4 := hb4.size; (try simp at hz4); obtain ⟨hc4_0, hf4_0, hx4_0⟩ := bcell0 hb4 w.heap.size (by first | assumption | omega | (simp; done) | (simp; omega)))
    go_wp2_with fail
    (refine (useOfI_any _ _ z xs _ (GX'.below (by repeat' (first | (with_reducible exact Below.refl _ _) | (with_reducible assumption) | (with_reducible refine below_drewN ?_ _) | (with_reducible refine Below.drew ?_) | (with_reducible refine below_alloc ?_ _) | (with_reducible refine Below.setCell ?_ ?_ _) | (with_reducible refine below_then ?_ (by assumption)) | omega | (simp; done) | (simp; omega))))).mono ?_; rintro e w5 ⟨rfl, hb5⟩; have HX5 : RdI w5 A xs := (HX4.below (below_alloc (Below.refl _ _) _)).below hb5; have GX5 : RdI w5 _ xs := (GX'.below (below_alloc (Below.refl _ _) _)).below hb5; have hz5 := hb5.size; (try simp at hz5); obtain ⟨hc5_0, hf5_0, hx5_0⟩ := bcell0 hb5 w.heap.size (by first | assumption | omega | (simp; done) | (simp; omega)); obtain ⟨hc5_1, hf5_1, hx5_1⟩ := bcell0 hb5 w4.heap.size (by first | assumption | omega | (simp; done) | (simp; omega)))
    go_wp2_with fail
    go_region_with (first
      | (go_at_call 12; (refine (toMeter_any _ _ z xs _ (HX5.below (by repeat' (first | (with_reducible exact Below.refl _ _) | (with_reducible assumption) | (with_reducible refine below_drewN ?_ _) | (with_reducible refine Below.drew ?_) | (with_reducible refine below_alloc ?_ _) | (with_reducible refine Below.setCell ?_ ?_ _) | (with_reducible refine below_then ?_ (by assumption)) | omega | (simp; done) | (simp; omega)))) hl).mono ?_; rintro e w6 ⟨g6, rfl, G6, hg6, hb6⟩; have GX6 := G6.rdI hm; have GX5' : RdI w6 _ xs := GX5.below (by repeat' (first | (with_reducible exact Below.refl _ _) | (with_reducible assumption) | (with_reducible refine below_drewN ?_ _) | (with_reducible refine Below.drew ?_) | (with_reducible refine below_alloc ?_ _) | (with_reducible refine Below.setCell ?_ ?_ _) | (with_reducible refine below_then ?_ (by assumption)) | exact below_then (Below.drew (Below.refl _ _)) (by assumption) | omega | (simp; done) | (simp; omega))); have hz6 := hb6.size; (try simp at hz6); obtain ⟨hc6_0, hf6_0, hx6_0⟩ := bcell0 hb6 w.heap.size (by first | assumption | omega | (simp; done) | (simp; omega)); obtain ⟨hc6_1, hf6_1, hx6_1⟩ := bcell0 hb6 w4.heap.size (by first | assumption | omega | (simp; done) | (simp; omega))))
      | (go_at_call 14; (refine (eqMeter_any _ _ _ _ z xs _ (GX5'.below (by repeat' (first | (with_reducible exact Below.refl _ _) | (with_reducible assumption) | (with_reducible refine below_drewN ?_ _) | (with_reducible refine Below.drew ?_) | (with_reducible refine below_alloc ?_ _) | (with_reducible refine Below.setCell ?_ ?_ _) | (with_reducible refine below_then ?_ (by assumption)) | exact below_then (Below.drew (Below.refl _ _)) (by assumption) | omega | (simp; done) | (simp; omega)))) (GX6.below (by repeat' (first | (with_reducible exact Below.refl _ _) | (with_reducible assumption) | (with_reducible refine below_drewN ?_ _) | (with_reducible refine Below.drew ?_) | (with_reducible refine below_alloc ?_ _) | (with_reducible refine Below.setCell ?_ ?_ _) | (with_reducible refine below_then ?_ (by assumption)) | exact below_then (Below.drew (Below.refl _ _)) (by assumption) | omega | (simp; done) | (simp; omega))))).mono ?_; rintro e w7 ⟨rfl, hb7⟩; have hz7 := hb7.size; (try simp at hz7))))
    all_goals
      go_wp2_with fail
      go_ret
      exact ⟨rfl, (by repeat' (first | (with_reducible exact Below.refl _ _) | (with_reducible assumption) | (with_reducible refine below_drewN ?_ _) | (with_reducible refine Below.drew ?_) | (with_reducible refine below_alloc ?_ _) | (with_reducible refine Below.setCell ?_ ?_ _) | (with_reducible refine below_then ?_ (by assumption)) | omega | (simp; done) | (simp; omega)))⟩
end Go.Proofs.Ytiikjnokoihhgaa
