/-
  LoadFactor: its walks and its law.
-/
import Derived.Test.YtiikjnokoihhgaaLf
import Derived.Test.YtiikjnokoihhgaaSf
import Derived.Deep.DeepCutAuto
namespace Go.Proofs.Ytiikjnokoihhgaa
open Go.RowKit Go.Fl Go.Lb Ieee

/-- a float64 narrowed -/
def nb (q : Nat) : Nat := FloatKind.f32.encode (FloatKind.f64.decode q)
theorem run_narrow {P : Program} (w : World) (src dst : TypeId) (q : Nat) (hs : P.underlying src = some (.float .f64)) (hd : P.underlying dst = some (.float .f32))
    (hq : ∃ s m p, FloatKind.f64.format.read q = .number s m p ∧ (FloatKind.f32.format.read (FloatKind.f32.format.write (.number s m p))).isInfinity = false) :
    (convert src dst (.float .f64 q)).run P w = .ok (.float .f32 (nb q)) w := by
  obtain ⟨s, m, p, h, hi⟩ := hq
  have hc : (Conv.floatToFloat .f64 q .f32).run P w = .ok (.float .f32 (nb q)) w := by
    unfold nb
    simp [Conv.floatToFloat, FloatKind.decode, FloatKind.encode, h, hi]
  simp [convert, run_underlying hs, run_underlying hd, hc]
theorem isN_nb {q : Nat} (hq : ∃ s m p, FloatKind.f64.format.read q = .number s m p ∧ (FloatKind.f32.format.read (FloatKind.f32.format.write (.number s m p))).isInfinity = false) : isN .f32 (nb q) = false := by
  obtain ⟨s, m, p, h, _⟩ := hq
  unfold nb
  have : FloatKind.f64.decode q = .number s m p := h
  rw [this]
  exact isN_write .f32 (d := .number s m p) rfl
theorem floatBits_of {op : BinOp} {k : FloatKind} {x y r : Nat} (h : fb op k x y = r) (hn : isN k r = false) : floatBits op k x y = some r := by
  unfold fb at h
  cases hf : floatBits op k x y with
  | some q => rw [hf] at h; exact congrArg some h
  | none =>
    rw [hf] at h
    have h' : qn k = r := h
    rw [← h', isN_qn] at hn
    cases hn
theorem fv_of {op : BinOp} {k : FloatKind} {x y r : Nat} (h : floatBits op k x y = some r) : (∀ W, fv W op k x y = r) ∧ fd op k x y = 0 := by
  refine ⟨fun W => ?_, ?_⟩
  · unfold fv; rw [h]
  · unfold fd; rw [h]; rfl
def lfOk (z : Int) (xs : List Int) : Bool := validM z xs && decide (maxL (uses z.toNat xs) ≠ 0)
def lfQ (us : List Int) : Nat := fb .quo .f64 (fI us.sum.toNat) (fI (us.length * (maxL us).toNat))
def lfV (z : Int) (xs : List Int) : Nat := if lfOk z xs then nb (lfQ (uses z.toNat xs)) else 0
theorem lfOk_a {z : Int} {xs : List Int} (h : validM z xs = false) : lfOk z xs = false := by unfold lfOk; rw [h]; rfl
theorem lfOk_b {d : Nat} {xs : List Int} (h : maxL (uses d xs) = 0) : lfOk d xs = false := by
  unfold lfOk
  have : maxL (uses (d : Int).toNat xs) = 0 := h
  rw [this]; simp
theorem lfOk_c {d : Nat} {xs : List Int} (h : validM d xs = true) (h' : maxL (uses d xs) ≠ 0) : lfOk d xs = true := by
  unfold lfOk
  rw [h]
  exact decide_eq_true h'
theorem lfV_no {z : Int} {xs : List Int} (h : lfOk z xs = false) : lfV z xs = 0 := by unfold lfV; rw [h]; rfl
theorem lfV_yes {d : Nat} {xs : List Int} (h : lfOk d xs = true) : lfV d xs = nb (lfQ (uses d xs)) := by unfold lfV; rw [h]; rfl
theorem ret_fb {a b : Nat} {s t : Bool} (h : a = b) (h' : s = t) : Ending.returned (.tuple #[.float .f32 a, .bool s]) = .returned (.tuple #[.float .f32 b, .bool t]) := by rw [h, h']
/-- what both do with the uses -/
theorem lf_facts {us : List Int} (hs : small us) (hn : us.length ≤ 256) (hm : maxL us ≠ 0) : ∃ (T M Q R : Nat), us.sum = (T : Int) ∧ maxL us = (M : Int) ∧ 0 < M ∧ M ≤ 1000000000 ∧ 0 < us.length ∧ T ≤ 256000000000 ∧ us.length * M ≤ 256000000000 ∧ 0 < us.length * M ∧ lfQ us = Q ∧ nb Q = R ∧ isN .f32 R = false ∧
    (∀ W, fv W .quo .f64 (fI T) (fI (us.length * M)) = Q) ∧ fd .quo .f64 (fI T) (fI (us.length * M)) = 0 ∧ (∃ s m p, FloatKind.f64.format.read Q = .number s m p ∧ (FloatKind.f32.format.read (FloatKind.f32.format.write (.number s m p))).isInfinity = false) ∧
    (∀ W, fv W .mul .f64 (fI us.length) (fI M) = fI (us.length * M)) ∧ fd .mul .f64 (fI us.length) (fI M) = 0 ∧ (cf .f64 (fI (us.length * M)) 0 == some .eq) = false := by
  have b1 := psum_bound hs us.length (Nat.le_refl _)
  rw [psum_full] at b1
  have b2 := mxAt_bound hs us.length (Nat.le_refl _)
  have b2' : 0 ≤ maxL us ∧ maxL us ≤ 1000000000 := b2
  have hpos : 0 < us.length := by
    rcases Nat.eq_zero_or_pos us.length with h | h
    · exfalso
      apply hm
      have : us = [] := List.eq_nil_of_length_eq_zero h
      subst this
      rfl
    · exact h
  obtain ⟨T, hT⟩ : ∃ T : Nat, us.sum = (T : Int) := ⟨us.sum.toNat, by omega⟩
  obtain ⟨M, hM⟩ : ∃ M : Nat, maxL us = (M : Int) := ⟨(maxL us).toNat, by omega⟩
  have hM0 : 0 < M := by omega
  have hMb : M ≤ 1000000000 := by omega
  have hP0 : 0 < us.length * M := Nat.mul_pos hpos hM0
  have hPb : us.length * M ≤ 256 * 1000000000 := Nat.mul_le_mul hn hMb
  obtain ⟨q, hq, hqn⟩ := fI_quo (a := T) (b := us.length * M) (by omega) (by omega) hP0
  have hfb : fb .quo .f64 (fI T) (fI (us.length * M)) = q := by unfold fb; rw [hq]; rfl
  have hmul : fb .mul .f64 (fI us.length) (fI M) = fI (us.length * M) := dy_mul (lim64 (by omega)) (lim64 (by omega)) (lim64 (by omega)) ok64 ok64 ok64.1
  have hmul2 := fv_of (floatBits_of hmul (isN_dy _ _ _ _))
  refine ⟨T, M, q, nb q, hT, hM, hM0, hMb, hpos, by omega, by omega, hP0, ?_, rfl, isN_nb hqn, (fv_of hq).1, (fv_of hq).2, hqn, hmul2.1, hmul2.2, ?_⟩
  · unfold lfQ
    rw [hT, hM]
    exact hfb
  · have h0 : cf .f64 (fI (us.length * M)) 0 = some (compare ((us.length * M : Nat) : Int) ((0 : Nat) : Int)) := by
      rw [← dy_zero .f64 0]
      exact dy_cf (lim64 (by omega)) (lim64 (by omega)) ok64
    rw [h0, Int.compare_eq_gt.2 (by omega)]
    rfl
theorem fd_zero {n : Nat} (hn : n ≤ 256) : (∀ W, fv W .mul .f64 (fI n) (fI 0) = 0) ∧ fd .mul .f64 (fI n) (fI 0) = 0 := by
  have hmul : fb .mul .f64 (fI n) (fI 0) = fI (n * 0) := dy_mul (lim64 (by omega)) (lim64 (by omega)) (lim64 (by omega)) ok64 ok64 ok64.1
  have hmul2 := fv_of (floatBits_of hmul (isN_dy _ _ _ _))
  refine ⟨fun W => ?_, hmul2.2⟩
  rw [hmul2.1, Nat.mul_zero]
  exact dy_zero _ _
set_option maxHeartbeats 2000000 in
theorem loadS_any (A : Option Addr) (c : Nat) (z : Int) (xs : List Int) (w : World) (HX : RdI w A xs) :
    Calls Try.prog 26 #[meterV z A xs.length c] w fun e w' => e = .returned (.tuple #[.float .f32 (lfV z xs), .bool (lfOk z xs)]) ∧ Below w.heap.size w w' := by
  cases hv : validM z xs with
  | false =>
    have HK := Lib.hid (lfOk_a hv)
    have HV := Lib.hid hv
    clear hv
    go_enter Try.func26, Try.ntmps26
    go_wp2_with fail
    refine (l09Meter_any _ 0 A c z xs _ (by go_simp) (by go_simp) (HX.below (by repeat' (first | (with_reducible exact Below.refl _ _) | (with_reducible assumption) | (with_reducible refine below_drewN ?_ _) | (with_reducible refine Below.drew ?_) | (with_reducible refine below_alloc ?_ _) | (with_reducible refine Below.setCell ?_ ?_ _) | (with_reducible refine below_then ?_ (by assumption)) | omega | (simp; done) | (simp; omega))))).mono ?_
    rintro e w' ⟨rfl, rfl⟩
    rw [HV.out]
    go_wp2_with fail
    exact bodyPost_ret (v := .tuple #[.float .f32 0, .bool false]) (by simp only [results, Try.results26]; go_simp) rfl ⟨ret_fb (lfV_no HK.out).symm HK.out.symm, (by repeat' (first | (with_reducible exact Below.refl _ _) | (with_reducible assumption) | (with_reducible refine below_drewN ?_ _) | (with_reducible refine Below.drew ?_) | (with_reducible refine below_alloc ?_ _) | (with_reducible refine Below.setCell ?_ ?_ _) | (with_reducible refine below_then ?_ (by assumption)) | omega | (simp; done) | (simp; omega)))⟩
  | true =>
    obtain ⟨d, rfl, hd1, hd, hn, hr⟩ := validM_yes hv
    have HV := Lib.hid hv
    have HRD := Lib.hid hr
    clear hv hr
    go_enter Try.func26, Try.ntmps26
    go_wp2_with fail
    refine (l09Meter_any _ 0 A c d xs _ (by go_simp) (by go_simp) (HX.below (by repeat' (first | (with_reducible exact Below.refl _ _) | (with_reducible assumption) | (with_reducible refine below_drewN ?_ _) | (with_reducible refine Below.drew ?_) | (with_reducible refine below_alloc ?_ _) | (with_reducible refine Below.setCell ?_ ?_ _) | (with_reducible refine below_then ?_ (by assumption)) | omega | (simp; done) | (simp; omega))))).mono ?_
    rintro e w' ⟨rfl, rfl⟩
    rw [HV.out]
    go_wp2_with fail
    refine (l09Uses_any _ 0 d A c xs _ (by go_simp) (by go_simp) (HX.below (by repeat' (first | (with_reducible exact Below.refl _ _) | (with_reducible assumption) | (with_reducible refine below_drewN ?_ _) | (with_reducible refine Below.drew ?_) | (with_reducible refine below_alloc ?_ _) | (with_reducible refine Below.setCell ?_ ?_ _) | (with_reducible refine below_then ?_ (by assumption)) | omega | (simp; done) | (simp; omega)))) hd HRD.out hn).mono ?_
    rintro e w1 ⟨v, rfl, HO, hb1⟩
    obtain ⟨A', c', rfl, HU⟩ := HO.rdI
    have HSM := Lib.hid (uses_small hd HRD.out)
    have hul := uses_le d hn
    obtain ⟨us, hus⟩ : ∃ us, uses d xs = us := ⟨_, rfl⟩
    rw [hus] at HU HSM hul HO ⊢
    have HUS := Lib.hid hus
    have hbw : Below w.heap.size w w1 := (by repeat' (first | (with_reducible exact Below.refl _ _) | (with_reducible assumption) | (with_reducible refine below_drewN ?_ _) | (with_reducible refine Below.drew ?_) | (with_reducible refine below_alloc ?_ _) | (with_reducible refine Below.setCell ?_ ?_ _) | (with_reducible refine below_then ?_ (by assumption)) | omega | (simp; done) | (simp; omega)))
    clear hus HO hb1
    go_wp2_with fail
    go_loopw [5, 12] (fun mv kv wr => ∃ (k : Nat) (m : Int), k ≤ us.length ∧ kv = .int .i64 k ∧ mv = .int .i64 m ∧ Hid (m = mxAt us k) ∧ wr = w1) (fun _ kv _ => us.length - (intOf kv).toNat)
    case atStart => exact ⟨0, 0, Nat.zero_le _, rfl, rfl, rfl, rfl⟩
    case round =>
      obtain ⟨k, m, hk, rfl, rfl, hmx, rfl⟩ := hrel
      by_cases hlt : k < us.length
      · have hki : (k : Int) < us.length := by omega
        obtain ⟨ad, rfl, hc⟩ := HU.at_ hlt
        have HT : Hid (max m (gi us k) = mxAt us (k + 1)) := by show _ = _; rw [mxAt_step hlt, hmx.out]
        go_wp2_with fail
        refine (l00Max_any _ _ _).mono ?_
        rintro e w' ⟨rfl, rfl⟩
        obtain ⟨m2, hm2⟩ : ∃ m2, max m (gi us k) = m2 := ⟨_, rfl⟩
        rw [hm2] at HT ⊢
        clear hm2
        go_wp2_with fail
        go_roundw
        case rel => exact ⟨k + 1, m2, by omega, by go_num, rfl, HT, by trivial⟩
        case measure => simp [intOf]; omega
      · obtain rfl : k = us.length := by omega
        have hmx' : m = maxL us := hmx.out
        by_cases hm0 : m = 0
        · have HK := Lib.hid (lfOk_b (d := d) (xs := xs) (by rw [HUS.out, ← hmx']; exact hm0))
          subst hm0
          clear hmx'
          go_wp2_with fail
          exact bodyPost_ret (v := .tuple #[.float .f32 0, .bool false]) (by simp only [results, Try.results26]; go_simp) rfl ⟨ret_fb (lfV_no HK.out).symm HK.out.symm, hbw⟩
        · have HK := Lib.hid (lfOk_c HV.out (by rw [HUS.out, ← hmx']; exact hm0))
          obtain ⟨T, M, Q, R, hT, hM, hM0, hMb, hpos, hTb, hPb, hP0, hQ, hR, hnn, q1, q2, q3, _, _, _⟩ := lf_facts HSM.out hul (by rw [← hmx']; exact hm0)
          have HVV : Hid (lfV d xs = R) := by show _ = _; rw [lfV_yes HK.out, HUS.out, hQ, hR]
          rw [hM] at hmx'
          subst hmx'
          have HTT := Lib.hid hT
          have g1 := fI_of T
          have g2 : floatOfInt .f64 ((M : Int) * (us.length : Int)) = fI (us.length * M) := by rw [← fI_of, Int.natCast_mul, Int.mul_comm]
          have g3 : 0 ≤ (M : Int) * (us.length : Int) ∧ (M : Int) * (us.length : Int) ≤ 256000000000 := by
            rw [← Int.natCast_mul, Nat.mul_comm]
            omega
          obtain ⟨g4, g5⟩ := g3
          have g6 : ∀ W : World, (convert 45 41 (.float .f64 Q)).run Try.prog W = .ok (.float .f32 R) W := fun W => by rw [← hR]; exact run_narrow W _ _ Q Try.underlying45 Try.underlying41 q3
          have hm0' : ¬ (M : Int) = 0 := by omega
          clear hT hQ hR q3 hm0 hM hmx
          go_wp2_with fail
          refine (l09Total_any A' c' us _ HU HSM.out hul).mono ?_
          rintro e w' ⟨rfl, rfl⟩
          rw [HTT.out]
          go_wp2_with fail
          exact bodyPost_ret (v := .tuple #[.float .f32 R, .bool true]) (by simp only [results, Try.results26]; go_simp) rfl ⟨ret_fb HVV.out.symm HK.out.symm, hbw⟩
set_option maxHeartbeats 2000000 in
theorem loadI_any (A : Option Addr) (c : Nat) (z : Int) (xs : List Int) (w : World) (HX : RdI w A xs) :
    Calls Try.prog 27 #[meterV z A xs.length c] w fun e w' => e = .returned (.tuple #[.float .f32 (lfV z xs), .bool (lfOk z xs)]) ∧ Below w.heap.size w w' := by
  have hm := HX.1
  cases hv : validM z xs with
  | false =>
    have HK := Lib.hid (lfOk_a hv)
    have HV := Lib.hid hv
    clear hv
    go_enter Try.func27, Try.ntmps27
    go_wp2_with fail
    (refine (validMeterI_any A c z xs _ (HX.below (by repeat' (first | (with_reducible exact Below.refl _ _) | (with_reducible assumption) | (with_reducible refine below_drewN ?_ _) | (with_reducible refine Below.drew ?_) | (with_reducible refine below_alloc ?_ _) | (with_reducible refine Below.setCell ?_ ?_ _) | (with_reducible refine below_then ?_ (by assumption)) | omega | (simp; done) | (simp; omega))))).mono ?_; rintro e w1 ⟨rfl, hb1⟩; rw [HV.out]; have hz1 := hb1.size; (try simp at hz1); obtain ⟨hc1_0, hf1_0, hx1_0⟩ := bcell0 hb1 w.heap.size (by first | assumption | omega | (simp; done) | (simp; omega)))
    go_wp2_with fail
    exact bodyPost_ret (v := .tuple #[.float .f32 0, .bool false]) (by simp only [results, Try.results27]; go_simp) rfl ⟨ret_fb (lfV_no HK.out).symm HK.out.symm, (by repeat' (first | (with_reducible exact Below.refl _ _) | (with_reducible assumption) | (with_reducible refine below_drewN ?_ _) | (with_reducible refine Below.drew ?_) | (with_reducible refine below_alloc ?_ _) | (with_reducible refine Below.setCell ?_ ?_ _) | (with_reducible refine below_then ?_ (by assumption)) | omega | (simp; done) | (simp; omega)))⟩
  | true =>
    obtain ⟨d, rfl, hd1, hd, hn, hr⟩ := validM_yes hv
    have HV := Lib.hid hv
    have HRD := Lib.hid hr
    clear hv hr
    by_cases h2 : xs.length < 2
    · have h2i : (xs.length : Int) < 2 := by omega
      have HK := Lib.hid (lfOk_b (d := d) (xs := xs) (by
        have h0 : uses d xs = [] := List.eq_nil_of_length_eq_zero (by rw [uses_length]; omega)
        rw [h0]
        rfl))
      go_enter Try.func27, Try.ntmps27
      go_wp2_with fail
      (refine (validMeterI_any A c d xs _ (HX.below (by repeat' (first | (with_reducible exact Below.refl _ _) | (with_reducible assumption) | (with_reducible refine below_drewN ?_ _) | (with_reducible refine Below.drew ?_) | (with_reducible refine below_alloc ?_ _) | (with_reducible refine Below.setCell ?_ ?_ _) | (with_reducible refine below_then ?_ (by assumption)) | omega | (simp; done) | (simp; omega))))).mono ?_; rintro e w1 ⟨rfl, hb1⟩; rw [HV.out]; have hz1 := hb1.size; (try simp at hz1); obtain ⟨hc1_0, hf1_0, hx1_0⟩ := bcell0 hb1 w.heap.size (by first | assumption | omega | (simp; done) | (simp; omega)))
      go_wp2_with fail
      exact bodyPost_ret (v := .tuple #[.float .f32 0, .bool false]) (by simp only [results, Try.results27]; go_simp) rfl ⟨ret_fb (lfV_no HK.out).symm HK.out.symm, (by repeat' (first | (with_reducible exact Below.refl _ _) | (with_reducible assumption) | (with_reducible refine below_drewN ?_ _) | (with_reducible refine Below.drew ?_) | (with_reducible refine below_alloc ?_ _) | (with_reducible refine Below.setCell ?_ ?_ _) | (with_reducible refine below_then ?_ (by assumption)) | omega | (simp; done) | (simp; omega)))⟩
    · have h2i : ¬ (xs.length : Int) < 2 := by omega
      go_enter Try.func27, Try.ntmps27
      go_wp2_with fail
      (refine (validMeterI_any A c d xs _ (HX.below (by repeat' (first | (with_reducible exact Below.refl _ _) | (with_reducible assumption) | (with_reducible refine below_drewN ?_ _) | (with_reducible refine Below.drew ?_) | (with_reducible refine below_alloc ?_ _) | (with_reducible refine Below.setCell ?_ ?_ _) | (with_reducible refine below_then ?_ (by assumption)) | omega | (simp; done) | (simp; omega))))).mono ?_; rintro e w1 ⟨rfl, hb1⟩; rw [HV.out]; have HX1 : RdI w1 A xs := (HX.below (below_alloc (Below.refl _ _) _)).below hb1; have hz1 := hb1.size; (try simp at hz1); obtain ⟨hc1_0, hf1_0, hx1_0⟩ := bcell0 hb1 w.heap.size (by first | assumption | omega | (simp; done) | (simp; omega)))
      go_wp2_with fail
      refine (usesI_any w.heap.size 0 d A c xs _ (by rw [hc1_0]; go_simp) (by rw [hc1_0]; go_simp) HX1 hd HRD.out hn).mono ?_
      rintro e w2 ⟨v, rfl, HO, hb2⟩
      obtain ⟨A', c', rfl, HU⟩ := HO.rdI
      have HSM := Lib.hid (uses_small hd HRD.out)
      have hul := uses_le d hn
      have hup : 0 < (uses d xs).length := by rw [uses_length]; omega
      obtain ⟨us, hus⟩ : ∃ us, uses d xs = us := ⟨_, rfl⟩
      rw [hus] at HU HSM hul HO hup ⊢
      have HUS := Lib.hid hus
      have hbw : Below w.heap.size w w2 := (by repeat' (first | (with_reducible exact Below.refl _ _) | (with_reducible assumption) | (with_reducible refine below_drewN ?_ _) | (with_reducible refine Below.drew ?_) | (with_reducible refine below_alloc ?_ _) | (with_reducible refine Below.setCell ?_ ?_ _) | (with_reducible refine below_then ?_ (by assumption)) | omega | (simp; done) | (simp; omega)))
      have g0 := fI_of us.length
      clear hus HO hb2 hb1 hc1_0 hf1_0 HX1
      go_wp2_with fail
      refine (slicesMax_any A' c' us _ HU HSM.out hup).mono ?_
      rintro e w' ⟨rfl, rfl⟩
      by_cases hm0 : maxL us = 0
      · have HK := Lib.hid (lfOk_b (d := d) (xs := xs) (by rw [HUS.out]; exact hm0))
        rw [hm0]
        have g1 : floatOfInt .f64 (0 : Int) = fI 0 := fI_of 0
        obtain ⟨g2, g3⟩ := fd_zero hul
        have g4 : (cf .f64 0 0 == some .eq) = true := by decide +kernel
        clear hm0
        go_wp2_with fail
        exact bodyPost_ret (v := .tuple #[.float .f32 0, .bool false]) (by simp only [results, Try.results27]; go_simp) rfl ⟨ret_fb (lfV_no HK.out).symm HK.out.symm, hbw⟩
      · have HK := Lib.hid (lfOk_c HV.out (by rw [HUS.out]; exact hm0))
        obtain ⟨T, M, Q, R, hT, hM, hM0, hMb, hpos, hTb, hPb, hP0, hQ, hR, hnn, q1, q2, q3, m1, m2, m3⟩ := lf_facts HSM.out hul hm0
        have HVV : Hid (lfV d xs = R) := by show _ = _; rw [lfV_yes HK.out, HUS.out, hQ, hR]
        rw [hM]
        have HTT := Lib.hid hT
        have g1 := fI_of T
        have g2 := fI_of M
        have g6 : ∀ W : World, (convert 45 41 (.float .f64 Q)).run Try.prog W = .ok (.float .f32 R) W := fun W => by rw [← hR]; exact run_narrow W _ _ Q Try.underlying45 Try.underlying41 q3
        clear hT hQ hR q3 hm0 hM
        go_wp2_with fail
        refine (summed_any A' c' us _ HU HSM.out hul).mono ?_
        rintro e w' ⟨rfl, rfl⟩
        rw [HTT.out]
        go_wp2_with fail
        exact bodyPost_ret (v := .tuple #[.float .f32 R, .bool true]) (by simp only [results, Try.results27]; go_simp) rfl ⟨ret_fb HVV.out.symm HK.out.symm, hbw⟩
theorem lfV_num (z : Int) (xs : List Int) : isN .f32 (lfV z xs) = false := by
  cases h : lfOk z xs with
  | false => rw [lfV_no h]; decide +kernel
  | true =>
    have h' := h
    unfold lfOk at h
    simp only [Bool.and_eq_true, decide_eq_true_eq] at h
    obtain ⟨d, rfl, hd1, hd, hn, hr⟩ := validM_yes h.1
    obtain ⟨T, M, Q, R, _, _, _, _, _, _, _, _, hQ, hR, hnn, _⟩ := lf_facts (uses_small hd hr) (uses_le d hn) h.2
    rw [lfV_yes h', hQ, hR]
    exact hnn
set_option maxHeartbeats 1000000 in
theorem fnExactLoadFactor_walk (A : Option Addr) (c : Nat) (z : Int) (xs : List Int) (w : World) (HX : RdI w A xs) :
    Calls Try.prog 7 #[meterV z A xs.length c] w fun e w' => e = .returned (.bool true) ∧ Below w.heap.size w w' := by
  have hm := HX.1
  rcases szM_le (left := 1048576) (n := xs.length) (by omega) with hz | ⟨hz, hz1⟩
  · go_enter Try.func7, Try.ntmps7
    go_wp2_with fail
    (refine (szMeter_any _ _ _ _ _ _ hm (by omega) (by omega)).mono ?_; rintro e w1 ⟨rfl, hb1⟩; have hz1 := hb1.size; (try simp at hz1))
    go_wp2_with fail
    go_ret
    exact ⟨rfl, (by repeat' (first | (with_reducible exact Below.refl _ _) | (with_reducible assumption) | (with_reducible refine below_drewN ?_ _) | (with_reducible refine Below.drew ?_) | (with_reducible refine below_alloc ?_ _) | (with_reducible refine Below.setCell ?_ ?_ _) | (with_reducible refine below_then ?_ (by assumption)) | omega | (simp; done) | (simp; omega)))⟩
  · have hl : xs.length ≤ 1048576 := by omega
    have HZ := Lib.hid hz
    obtain ⟨R, hR⟩ : ∃ R, lfV z xs = R := ⟨_, rfl⟩
    have hnn : isN .f32 R = false := by rw [← hR]; exact lfV_num z xs
    have HR := Lib.hid hR
    have HN := Lib.hid (sameFloat_num (wb R) · (isN_encode hnn |> fun h => by unfold wb; rw [hnn]; exact h))
    clear hR
    go_enter Try.func7, Try.ntmps7
    clear hz
    go_wp2_with fail
    (refine (szMeter_any _ _ _ _ _ _ hm (by omega) (by omega)).mono ?_; rintro e w1 ⟨rfl, hb1⟩; rw [HZ.out]; have HX1 := (HX.below (below_alloc (Below.refl _ _) _)).below hb1; have hz1 := hb1.size; (try simp at hz1); obtain ⟨hc1_0, hf1_0, hx1_0⟩ := bcell0 hb1 w.heap.size (by first | assumption | omega | (simp; done) | (simp; omega)))
    go_wp2_with fail
    (refine (toMeter_any _ _ z xs _ HX1 hl).mono ?_; rintro e w2 ⟨g, rfl, G, hg, hb2⟩; have HX2 := HX1.below hb2; have GX := G.rdI hm; have hz2 := hb2.size; (try simp at hz2); obtain ⟨hc2_0, hf2_0, hx2_0⟩ := bcell0 hb2 w.heap.size (by first | assumption | omega | (simp; done) | (simp; omega)))
    go_wp2_with fail
    (refine (loadS_any _ _ z xs _ GX).mono ?_; rintro e w3 ⟨rfl, hb3⟩; rw [HR.out]; have HX3 := HX2.below hb3; have hz3 := hb3.size; (try simp at hz3); obtain ⟨hc3_0, hf3_0, hx3_0⟩ := bcell0 hb3 w.heap.size (by first | assumption | omega | (simp; done) | (simp; omega)))
    go_wp2_with fail
    (refine (toMeter_any _ _ z xs _ HX3 hl).mono ?_; rintro e w4 ⟨g', rfl, G', hg', hb4⟩; have HX4 := HX3.below hb4; have GX' := G'.rdI hm; have hz4 := hb4.size; (try simp at hz4); obtain ⟨hc4_0, hf4_0, hx4_0⟩ := bcell0 hb4 w.heap.size (by first | assumption | omega | (simp; done) | (simp; omega)))
    go_wp2_with fail
    (refine (loadI_any _ _ z xs _ (GX'.below (by repeat' (first | (with_reducible exact Below.refl _ _) | (with_reducible assumption) | (with_reducible refine below_drewN ?_ _) | (with_reducible refine Below.drew ?_) | (with_reducible refine below_alloc ?_ _) | (with_reducible refine Below.setCell ?_ ?_ _) | (with_reducible refine below_then ?_ (by assumption)) | omega | (simp; done) | (simp; omega))))).mono ?_; rintro e w5 ⟨rfl, hb5⟩; rw [HR.out]; have HX5 : RdI w5 A xs := (HX4.below (below_alloc (Below.refl _ _) _)).below hb5; have GX5 : RdI w5 _ xs := (GX'.below (below_alloc (Below.refl _ _) _)).below hb5; have hz5 := hb5.size; (try simp at hz5); obtain ⟨hc5_0, hf5_0, hx5_0⟩ := bcell0 hb5 w.heap.size (by first | assumption | omega | (simp; done) | (simp; omega)); obtain ⟨hc5_1, hf5_1, hx5_1⟩ := bcell0 hb5 w4.heap.size (by first | assumption | omega | (simp; done) | (simp; omega)))
    go_wp2_with fail
    refine (HN.out _).mono ?_
    rintro e w' ⟨rfl, n, rfl⟩
    go_wp2_with fail
    go_region_with (first
      | (go_at_call 12; (refine (toMeter_any _ _ z xs _ (HX5.below (by repeat' (first | (with_reducible exact Below.refl _ _) | (with_reducible assumption) | (with_reducible refine below_drewN ?_ _) | (with_reducible refine Below.drew ?_) | (with_reducible refine below_alloc ?_ _) | (with_reducible refine Below.setCell ?_ ?_ _) | (with_reducible refine below_then ?_ (by assumption)) | exact below_then (Below.drew (Below.refl _ _)) (by assumption) | omega | (simp; done) | (simp; omega)))) hl).mono ?_; rintro e w6 ⟨g6, rfl, G6, hg6, hb6⟩; have GX6 := G6.rdI hm; have GX5' : RdI w6 _ xs := GX5.below (by repeat' (first | (with_reducible exact Below.refl _ _) | (with_reducible assumption) | (with_reducible refine below_drewN ?_ _) | (with_reducible refine Below.drew ?_) | (with_reducible refine below_alloc ?_ _) | (with_reducible refine Below.setCell ?_ ?_ _) | (with_reducible refine below_then ?_ (by assumption)) | exact below_then (Below.drew (Below.refl _ _)) (by assumption) | omega | (simp; done) | (simp; omega))); have hz6 := hb6.size; (try simp at hz6); obtain ⟨hc6_0, hf6_0, hx6_0⟩ := bcell0 hb6 w.heap.size (by first | assumption | omega | (simp; done) | (simp; omega)); obtain ⟨hc6_1, hf6_1, hx6_1⟩ := bcell0 hb6 w4.heap.size (by first | assumption | omega | (simp; done) | (simp; omega))))
      | (go_at_call 14; (refine (eqMeter_any _ _ _ _ z xs _ (GX5'.below (by repeat' (first | (with_reducible exact Below.refl _ _) | (with_reducible assumption) | (with_reducible refine below_drewN ?_ _) | (with_reducible refine Below.drew ?_) | (with_reducible refine below_alloc ?_ _) | (with_reducible refine Below.setCell ?_ ?_ _) | (with_reducible refine below_then ?_ (by assumption)) | exact below_then (Below.drew (Below.refl _ _)) (by assumption) | omega | (simp; done) | (simp; omega)))) (GX6.below (by repeat' (first | (with_reducible exact Below.refl _ _) | (with_reducible assumption) | (with_reducible refine below_drewN ?_ _) | (with_reducible refine Below.drew ?_) | (with_reducible refine below_alloc ?_ _) | (with_reducible refine Below.setCell ?_ ?_ _) | (with_reducible refine below_then ?_ (by assumption)) | exact below_then (Below.drew (Below.refl _ _)) (by assumption) | omega | (simp; done) | (simp; omega))))).mono ?_; rintro e w7 ⟨rfl, hb7⟩; have hz7 := hb7.size; (try simp at hz7))))
    all_goals
      go_wp2_with fail
      go_ret
      exact ⟨rfl, (by repeat' (first | (with_reducible exact Below.refl _ _) | (with_reducible assumption) | (with_reducible refine below_drewN ?_ _) | (with_reducible refine Below.drew ?_) | (with_reducible refine below_alloc ?_ _) | (with_reducible refine Below.setCell ?_ ?_ _) | (with_reducible refine below_then ?_ (by assumption)) | omega | (simp; done) | (simp; omega)))⟩
end Go.Proofs.Ytiikjnokoihhgaa
