/-
  ValidMeter of the program and of the reference; the law FnExactValidMeter, walked.
-/
import Derived.Test.YtiikjnokoihhgaaMw
import Derived.Deep.DeepCutAuto
namespace Go.Proofs.Ytiikjnokoihhgaa
open Go.RowKit Go.Fl Go.Lb

abbrev meterV (z : Int) (A : Option Addr) (n c : Nat) : Value := .agg #[.int .i64 z, .slice A n c]
set_option maxHeartbeats 400000 in
theorem validMeterS_any (A : Option Addr) (c : Nat) (z : Int) (xs : List Int) (w : World) (HX : RdI w A xs) :
    Calls Try.prog 11 #[meterV z A xs.length c] w fun e w' => e = .returned (.bool (validM z xs)) ∧ Below w.heap.size w w' := by
  go_enter Try.func11, Try.ntmps11
  go_wp2_with fail
  refine (l09Meter_any _ 0 A c z xs _ (by go_simp) (by go_simp) (HX.below (by repeat' (first | (with_reducible exact Below.refl _ _) | (with_reducible assumption) | (with_reducible refine below_drewN ?_ _) | (with_reducible refine Below.drew ?_) | (with_reducible refine below_alloc ?_ _) | (with_reducible refine Below.setCell ?_ ?_ _) | (with_reducible refine below_then ?_ (by assumption)) | omega | (simp; done) | (simp; omega))))).mono ?_
  rintro e w' ⟨rfl, rfl⟩
  go_wp2_with fail
  go_ret
  exact ⟨rfl, (by repeat' (first | (with_reducible exact Below.refl _ _) | (with_reducible assumption) | (with_reducible refine below_drewN ?_ _) | (with_reducible refine Below.drew ?_) | (with_reducible refine below_alloc ?_ _) | (with_reducible refine Below.setCell ?_ ?_ _) | (with_reducible refine below_then ?_ (by assumption)) | omega | (simp; done) | (simp; omega)))⟩
set_option maxHeartbeats 1000000 in
theorem validMeterI_any (A : Option Addr) (c : Nat) (z : Int) (xs : List Int) (w : World) (HX : RdI w A xs) :
    Calls Try.prog 13 #[meterV z A xs.length c] w fun e w' => e = .returned (.bool (validM z xs)) ∧ Below w.heap.size w w' := by
  have hm := HX.1
  cases hz : inB z 1 9 with
  | false =>
    have HV := Lib.hid (show validM z xs = false by simp [validM, hz])
    go_enter Try.func13, Try.ntmps13
    go_wp2_with (go_at_call 39; refine (in_any _ _ _ _).mono ?_; rintro e w' ⟨rfl, rfl⟩)
    go_ret
    exact ⟨ret_bool HV.out.symm, (by repeat' (first | (with_reducible exact Below.refl _ _) | (with_reducible assumption) | (with_reducible refine below_drewN ?_ _) | (with_reducible refine Below.drew ?_) | (with_reducible refine below_alloc ?_ _) | (with_reducible refine Below.setCell ?_ ?_ _) | (with_reducible refine below_then ?_ (by assumption)) | omega | (simp; done) | (simp; omega)))⟩
  | true =>
    by_cases hn : 256 < xs.length
    · have hni : 256 < (xs.length : Int) := by omega
      have HV := Lib.hid (validM_long (z := z) hn)
      go_enter Try.func13, Try.ntmps13
      go_wp2_with (go_at_call 39; refine (in_any _ _ _ _).mono ?_; rintro e w' ⟨rfl, rfl⟩)
      go_ret
      exact ⟨ret_bool HV.out.symm, (by repeat' (first | (with_reducible exact Below.refl _ _) | (with_reducible assumption) | (with_reducible refine below_drewN ?_ _) | (with_reducible refine Below.drew ?_) | (with_reducible refine below_alloc ?_ _) | (with_reducible refine Below.setCell ?_ ?_ _) | (with_reducible refine below_then ?_ (by assumption)) | omega | (simp; done) | (simp; omega)))⟩
    · have hni : ¬ 256 < (xs.length : Int) := by omega
      obtain ⟨d, rfl, hd1, hd⟩ := digits_of hz
      have HV : Hid (validM d xs = readsOk d xs) := by
        show _ = _
        unfold validM
        rw [hz, decide_eq_true (by omega)]
        rfl
      go_enter Try.func13, Try.ntmps13
      go_wp2_with (go_at_call 39; refine (in_any _ _ _ _).mono ?_; rintro e w' ⟨rfl, rfl⟩)
      refine (containsFuncI_any _ _ eg_valid1 (fun x => !readOk d x) _ (fun x => valid1_any w.heap.size d hd x _ (by go_simp)) A c xs (HX.below (by repeat' (first | (with_reducible exact Below.refl _ _) | (with_reducible assumption) | (with_reducible refine below_drewN ?_ _) | (with_reducible refine Below.drew ?_) | (with_reducible refine below_alloc ?_ _) | (with_reducible refine Below.setCell ?_ ?_ _) | (with_reducible refine below_then ?_ (by assumption)) | omega | (simp; done) | (simp; omega))))).mono ?_
      rintro e w' ⟨rfl, rfl⟩
      rw [any_reads]
      go_wp2_with fail
      go_ret
      exact ⟨ret_bool (by rw [HV.out]), (by repeat' (first | (with_reducible exact Below.refl _ _) | (with_reducible assumption) | (with_reducible refine below_drewN ?_ _) | (with_reducible refine Below.drew ?_) | (with_reducible refine below_alloc ?_ _) | (with_reducible refine Below.setCell ?_ ?_ _) | (with_reducible refine below_then ?_ (by assumption)) | omega | (simp; done) | (simp; omega)))⟩
set_option maxHeartbeats 400000 in
theorem szMeter_any (A : Option Addr) (c n : Nat) (z left : Int) (w : World) (hn : n ≤ 9223372036854775807) (h0 : 0 ≤ left) (h1 : left ≤ 1048576) :
    Calls Try.prog 10 #[meterV z A n c, .int .i64 left] w fun e w' => e = .returned (.int .i64 (szM left n)) ∧ Below w.heap.size w w' := by
  rcases szM_le (left := left) (n := n) (by omega) with h | ⟨h, h2⟩
  · have hs : szM left n = -1 := by unfold szM at *; split <;> simp_all
    go_enter Try.func10, Try.ntmps10
    go_wp2_with fail
    refine (szInt64S_any _ _ _ _ _ hn h0 h1).mono ?_
    rintro e w' ⟨rfl, rfl⟩
    rw [hs]
    go_wp2_with fail
    go_ret
    exact ⟨ret_int hs.symm, (by repeat' (first | (with_reducible exact Below.refl _ _) | (with_reducible assumption) | (with_reducible refine below_drewN ?_ _) | (with_reducible refine Below.drew ?_) | (with_reducible refine below_alloc ?_ _) | (with_reducible refine Below.setCell ?_ ?_ _) | (with_reducible refine below_then ?_ (by assumption)) | omega | (simp; done) | (simp; omega)))⟩
  · have h3 : ¬ (left - (n : Int) < 0) := by omega
    have HS := Lib.hid h
    clear h
    go_enter Try.func10, Try.ntmps10
    go_wp2_with fail
    refine (szInt64S_any _ _ _ _ _ hn h0 h1).mono ?_
    rintro e w' ⟨rfl, rfl⟩
    rw [HS.out]
    go_wp2_with fail
    go_ret
    exact ⟨ret_int HS.out.symm, (by repeat' (first | (with_reducible exact Below.refl _ _) | (with_reducible assumption) | (with_reducible refine below_drewN ?_ _) | (with_reducible refine Below.drew ?_) | (with_reducible refine below_alloc ?_ _) | (with_reducible refine Below.setCell ?_ ?_ _) | (with_reducible refine below_then ?_ (by assumption)) | omega | (simp; done) | (simp; omega)))⟩
set_option maxHeartbeats 400000 in
theorem toMeter_any (A : Option Addr) (c : Nat) (z : Int) (xs : List Int) (w : World) (HX : RdI w A xs) (hl : xs.length ≤ 1048576) :
    Calls Try.prog 12 #[meterV z A xs.length c] w fun e w' => ∃ g, e = .returned (meterV z (some ⟨g, 0, none⟩) xs.length xs.length) ∧ Blk w' g 2 (xs.map iv) ∧ w.heap.size ≤ g ∧ Below w.heap.size w w' := by
  go_enter Try.func12, Try.ntmps12
  go_wp2_with fail
  (refine (toInt64S_any _ _ xs _ (HX.below (by repeat' (first | (with_reducible exact Below.refl _ _) | (with_reducible assumption) | (with_reducible refine below_drewN ?_ _) | (with_reducible refine Below.drew ?_) | (with_reducible refine below_alloc ?_ _) | (with_reducible refine Below.setCell ?_ ?_ _) | (with_reducible refine below_then ?_ (by assumption)) | omega | (simp; done) | (simp; omega)))) hl).mono ?_; rintro e w1 ⟨g1, rfl, G1, hg1, hb1⟩; have hz1 := hb1.size; (try simp at hz1); obtain ⟨hc1_0, hf1_0, hx1_0⟩ := bcell0 hb1 w.heap.size (by first | assumption | omega | (simp; done) | (simp; omega)); obtain ⟨hc1_1, hf1_1, hx1_1⟩ := bcell0 hb1 (w.heap.size + 1) (by first | assumption | omega | (simp; done) | (simp; omega)); obtain ⟨hc1_2, hf1_2, hx1_2⟩ := bcell0 hb1 (w.heap.size + 2) (by first | assumption | omega | (simp; done) | (simp; omega)))
  simp at hg1
  have hlt1 := G1.lt
  go_wp2_with fail
  exact bodyPost_ret (v := meterV z (some ⟨g1, 0, none⟩) xs.length xs.length) (by simp only [results, Try.results12]; go_simp) rfl ⟨g1, rfl, (by repeat' (first | (with_reducible assumption) | (with_reducible exact Blk.new _ _ _) | (with_reducible refine Blk.alloc ?_ _) | (with_reducible refine Blk.drewN ?_ _) | (with_reducible refine Blk.drewS ?_) | (with_reducible apply Blk.set3) | (with_reducible refine Blk.other ?_ ?_ _) | omega | (simp; done) | (simp; omega))), by omega, (by repeat' (first | (with_reducible exact Below.refl _ _) | (with_reducible assumption) | (with_reducible refine below_drewN ?_ _) | (with_reducible refine Below.drew ?_) | (with_reducible refine below_alloc ?_ _) | (with_reducible refine Below.setCell ?_ ?_ _) | (with_reducible refine below_then ?_ (by assumption)) | omega | (simp; done) | (simp; omega)))⟩
set_option maxHeartbeats 400000 in
theorem eqMeter_any (A B : Option Addr) (c d : Nat) (z : Int) (xs : List Int) (w : World) (HX : RdI w A xs) (HY : RdI w B xs) :
    Calls Try.prog 14 #[meterV z A xs.length c, meterV z B xs.length d] w fun e w' => e = .returned (.bool true) ∧ Below w.heap.size w w' := by
  go_enter Try.func14, Try.ntmps14
  go_wp2_with fail
  refine (eqInt64S_any _ _ _ _ xs _ (HX.below (by repeat' (first | (with_reducible exact Below.refl _ _) | (with_reducible assumption) | (with_reducible refine below_drewN ?_ _) | (with_reducible refine Below.drew ?_) | (with_reducible refine below_alloc ?_ _) | (with_reducible refine Below.setCell ?_ ?_ _) | (with_reducible refine below_then ?_ (by assumption)) | omega | (simp; done) | (simp; omega)))) (HY.below (by repeat' (first | (with_reducible exact Below.refl _ _) | (with_reducible assumption) | (with_reducible refine below_drewN ?_ _) | (with_reducible refine Below.drew ?_) | (with_reducible refine below_alloc ?_ _) | (with_reducible refine Below.setCell ?_ ?_ _) | (with_reducible refine below_then ?_ (by assumption)) | omega | (simp; done) | (simp; omega))))).mono ?_
  rintro e w' ⟨rfl, n, rfl⟩
  go_wp2_with fail
  go_ret
  exact ⟨rfl, (by repeat' (first | (with_reducible exact Below.refl _ _) | (with_reducible assumption) | (with_reducible refine below_drewN ?_ _) | (with_reducible refine Below.drew ?_) | (with_reducible refine below_alloc ?_ _) | (with_reducible refine Below.setCell ?_ ?_ _) | (with_reducible refine below_then ?_ (by assumption)) | omega | (simp; done) | (simp; omega)))⟩
set_option maxHeartbeats 1000000 in
theorem fnExactValidMeter_walk (A : Option Addr) (c : Nat) (z : Int) (xs : List Int) (w : World) (HX : RdI w A xs) :
    Calls Try.prog 3 #[meterV z A xs.length c] w fun e w' => e = .returned (.bool true) ∧ Below w.heap.size w w' := by
  have hm := HX.1
  rcases szM_le (left := 1048576) (n := xs.length) (by omega) with hz | ⟨hz, hz1⟩
  · go_enter Try.func3, Try.ntmps3
    go_wp2_with fail
    (refine (szMeter_any _ _ _ _ _ _ hm (by omega) (by omega)).mono ?_; rintro e w1 ⟨rfl, hb1⟩; have hz1 := hb1.size; (try simp at hz1))
    go_wp2_with fail
    go_ret
    exact ⟨rfl, (by repeat' (first | (with_reducible exact Below.refl _ _) | (with_reducible assumption) | (with_reducible refine below_drewN ?_ _) | (with_reducible refine Below.drew ?_) | (with_reducible refine below_alloc ?_ _) | (with_reducible refine Below.setCell ?_ ?_ _) | (with_reducible refine below_then ?_ (by assumption)) | omega | (simp; done) | (simp; omega)))⟩
  · have hl : xs.length ≤ 1048576 := by omega
    have HZ := Lib.hid hz
    go_enter Try.func3, Try.ntmps3
    clear hz
    go_wp2_with fail
    (refine (szMeter_any _ _ _ _ _ _ hm (by omega) (by omega)).mono ?_; rintro e w1 ⟨rfl, hb1⟩; rw [HZ.out]; have HX1 := (HX.below (below_alloc (Below.refl _ _) _)).below hb1; have hz1 := hb1.size; (try simp at hz1); obtain ⟨hc1_0, hf1_0, hx1_0⟩ := bcell0 hb1 w.heap.size (by first | assumption | omega | (simp; done) | (simp; omega)))
    go_wp2_with fail
    (refine (toMeter_any _ _ z xs _ HX1 hl).mono ?_; rintro e w2 ⟨g, rfl, G, hg, hb2⟩; have HX2 := HX1.below hb2; have GX := G.rdI hm; have hz2 := hb2.size; (try simp at hz2); obtain ⟨hc2_0, hf2_0, hx2_0⟩ := bcell0 hb2 w.heap.size (by first | assumption | omega | (simp; done) | (simp; omega)))
    go_wp2_with fail
    (refine (validMeterS_any _ _ z xs _ GX).mono ?_; rintro e w3 ⟨rfl, hb3⟩; have HX3 := HX2.below hb3; have hz3 := hb3.size; (try simp at hz3); obtain ⟨hc3_0, hf3_0, hx3_0⟩ := bcell0 hb3 w.heap.size (by first | assumption | omega | (simp; done) | (simp; omega)))
    go_wp2_with fail
    (refine (toMeter_any _ _ z xs _ HX3 hl).mono ?_; rintro e w4 ⟨g', rfl, G', hg', hb4⟩; have HX4 := HX3.below hb4; have GX' := G'.rdI hm; have hz4 := hb4.size; (try simp at hz4); obtain ⟨hc4_0, hf4_0, hx4_0⟩ := bcell0 hb4 w.heap.size (by first | assumption | omega | (simp; done) | (simp; omega)))
    go_wp2_with fail
    (refine (validMeterI_any _ _ z xs _ (GX'.below (by repeat' (first | (with_reducible exact Below.refl _ _) | (with_reducible assumption) | (with_reducible refine below_drewN ?_ _) | (with_reducible refine Below.drew ?_) | (with_reducible refine below_alloc ?_ _) | (with_reducible refine Below.setCell ?_ ?_ _) | (with_reducible refine below_then ?_ (by assumption)) | omega | (simp; done) | (simp; omega))))).mono ?_; rintro e w5 ⟨rfl, hb5⟩; have HX5 : RdI w5 A xs := (HX4.below (below_alloc (Below.refl _ _) _)).below hb5; have GX5 : RdI w5 _ xs := (GX'.below (below_alloc (Below.refl _ _) _)).below hb5; have hz5 := hb5.size; (try simp at hz5); obtain ⟨hc5_0, hf5_0, hx5_0⟩ := bcell0 hb5 w.heap.size (by first | assumption | omega | (simp; done) | (simp; omega)); obtain ⟨hc5_1, hf5_1, hx5_1⟩ := bcell0 hb5 w4.heap.size (by first | assumption | omega | (simp; done) | (simp; omega)))
    go_wp2_with fail
    go_region_with (first
      | (go_at_call 12; (refine (toMeter_any _ _ z xs _ (HX5.below (by repeat' (first | (with_reducible exact Below.refl _ _) | (with_reducible assumption) | (with_reducible refine below_drewN ?_ _) | (with_reducible refine Below.drew ?_) | (with_reducible refine below_alloc ?_ _) | (with_reducible refine Below.setCell ?_ ?_ _) | (with_reducible refine below_then ?_ (by assumption)) | omega | (simp; done) | (simp; omega)))) hl).mono ?_; rintro e w6 ⟨g6, rfl, G6, hg6, hb6⟩; have GX6 := G6.rdI hm; have GX5' : RdI w6 _ xs := GX5.below (by repeat' (first | (with_reducible exact Below.refl _ _) | (with_reducible assumption) | (with_reducible refine below_drewN ?_ _) | (with_reducible refine Below.drew ?_) | (with_reducible refine below_alloc ?_ _) | (with_reducible refine Below.setCell ?_ ?_ _) | (with_reducible refine below_then ?_ (by assumption)) | exact below_then (Below.drew (Below.refl _ _)) (by assumption) | omega | (simp; done) | (simp; omega))); have hz6 := hb6.size; (try simp at hz6); obtain ⟨hc6_0, hf6_0, hx6_0⟩ := bcell0 hb6 w.heap.size (by first | assumption | omega | (simp; done) | (simp; omega)); obtain ⟨hc6_1, hf6_1, hx6_1⟩ := bcell0 hb6 w4.heap.size (by first | assumption | omega | (simp; done) | (simp; omega))))
      | (go_at_call 14; (refine (eqMeter_any _ _ _ _ z xs _ (GX5'.below (by repeat' (first | (with_reducible exact Below.refl _ _) | (with_reducible assumption) | (with_reducible refine below_drewN ?_ _) | (with_reducible refine Below.drew ?_) | (with_reducible refine below_alloc ?_ _) | (with_reducible refine Below.setCell ?_ ?_ _) | (with_reducible refine below_then ?_ (by assumption)) | exact below_then (Below.drew (Below.refl _ _)) (by assumption) | omega | (simp; done) | (simp; omega)))) (GX6.below (by repeat' (first | (with_reducible exact Below.refl _ _) | (with_reducible assumption) | (with_reducible refine below_drewN ?_ _) | (with_reducible refine Below.drew ?_) | (with_reducible refine below_alloc ?_ _) | (with_reducible refine Below.setCell ?_ ?_ _) | (with_reducible refine below_then ?_ (by assumption)) | exact below_then (Below.drew (Below.refl _ _)) (by assumption) | omega | (simp; done) | (simp; omega))))).mono ?_; rintro e w7 ⟨rfl, hb7⟩; have hz7 := hb7.size; (try simp at hz7))))
    all_goals
      go_wp2_with fail
      go_ret
      exact ⟨rfl, (by repeat' (first | (with_reducible exact Below.refl _ _) | (with_reducible assumption) | (with_reducible refine below_drewN ?_ _) | (with_reducible refine Below.drew ?_) | (with_reducible refine below_alloc ?_ _) | (with_reducible refine Below.setCell ?_ ?_ _) | (with_reducible refine below_then ?_ (by assumption)) | omega | (simp; done) | (simp; omega)))⟩
end Go.Proofs.Ytiikjnokoihhgaa
