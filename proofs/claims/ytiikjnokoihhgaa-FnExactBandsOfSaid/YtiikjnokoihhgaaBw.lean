/-
  BandsOf of the program and of the reference.
-/
import Derived.Test.YtiikjnokoihhgaaBp
namespace Go.Proofs.Ytiikjnokoihhgaa
open Go.RowKit Go.Fl Go.Lb Go.Deep

set_option maxRecDepth 100000 in
set_option maxHeartbeats 4000000 in
theorem bandsI_any (A B : Option Addr) (c e0 : Nat) (z : Int) (xs ls : List Int) (w : World) (HX : RdI w A xs) (HS : RdI w B ls) :
    Calls Try.prog 25 #[meterV z A xs.length c, .slice B ls.length e0] w (BandRes w z xs ls) := by
  have hml := HS.1
  cases hv : validM z xs with
  | false =>
    have HN := Lib.hid (bandOk_a (ls := ls) hv)
    have HV := Lib.hid hv
    clear hv
    go_enter Try.func25, Try.ntmps25
    go_wp2_with fail
    (refine (validMeterI_any A c z xs _ (HX.below (by repeat' (first | (with_reducible exact Below.refl _ _) | (with_reducible assumption) | (with_reducible refine below_drewN ?_ _) | (with_reducible refine Below.drew ?_) | (with_reducible refine below_alloc ?_ _) | (with_reducible refine Below.setCell ?_ ?_ _) | (with_reducible refine below_then ?_ (by assumption)) | omega | (simp; done) | (simp; omega))))).mono ?_; rintro e w1 ⟨rfl, hb1⟩; rw [HV.out]; have hz1 := hb1.size; (try simp at hz1); obtain ⟨hc1_0, hf1_0, hx1_0⟩ := bcell0 hb1 w.heap.size (by first | assumption | omega | (simp; done) | (simp; omega)))
    go_wp2_with fail
    exact bodyPost_ret (v := .tuple #[.slice none 0 0, .bool false]) (by simp only [results, Try.results25]; go_simp) rfl (bandRes_no HN.out (by repeat' (first | (with_reducible exact Below.refl _ _) | (with_reducible assumption) | (with_reducible refine below_drewN ?_ _) | (with_reducible refine Below.drew ?_) | (with_reducible refine below_alloc ?_ _) | (with_reducible refine Below.setCell ?_ ?_ _) | (with_reducible refine below_then ?_ (by assumption)) | omega | (simp; done) | (simp; omega))))
  | true =>
    have HV := Lib.hid hv
    by_cases hn : 256 < ls.length
    · have hni : 256 < (ls.length : Int) := by omega
      have HN := Lib.hid (bandOk_b (z := z) (xs := xs) hn)
      clear hv
      go_enter Try.func25, Try.ntmps25
      go_wp2_with fail
      (refine (validMeterI_any A c z xs _ (HX.below (by repeat' (first | (with_reducible exact Below.refl _ _) | (with_reducible assumption) | (with_reducible refine below_drewN ?_ _) | (with_reducible refine Below.drew ?_) | (with_reducible refine below_alloc ?_ _) | (with_reducible refine Below.setCell ?_ ?_ _) | (with_reducible refine below_then ?_ (by assumption)) | omega | (simp; done) | (simp; omega))))).mono ?_; rintro e w1 ⟨rfl, hb1⟩; rw [HV.out]; have hz1 := hb1.size; (try simp at hz1); obtain ⟨hc1_0, hf1_0, hx1_0⟩ := bcell0 hb1 w.heap.size (by first | assumption | omega | (simp; done) | (simp; omega)))
      go_wp2_with fail
      exact bodyPost_ret (v := .tuple #[.slice none 0 0, .bool false]) (by simp only [results, Try.results25]; go_simp) rfl (bandRes_no HN.out (by repeat' (first | (with_reducible exact Below.refl _ _) | (with_reducible assumption) | (with_reducible refine below_drewN ?_ _) | (with_reducible refine Below.drew ?_) | (with_reducible refine below_alloc ?_ _) | (with_reducible refine Below.setCell ?_ ?_ _) | (with_reducible refine below_then ?_ (by assumption)) | omega | (simp; done) | (simp; omega))))
    · have hni : ¬ 256 < (ls.length : Int) := by omega
      have hn' : ls.length ≤ 256 := by omega
      obtain ⟨d, rfl, hd1, hd, hnx, hr⟩ := validM_yes hv
      have HRD := Lib.hid hr
      clear hv hr
      go_enter Try.func25, Try.ntmps25
      go_wp2_with fail
      (refine (validMeterI_any A c d xs _ (HX.below (by repeat' (first | (with_reducible exact Below.refl _ _) | (with_reducible assumption) | (with_reducible refine below_drewN ?_ _) | (with_reducible refine Below.drew ?_) | (with_reducible refine below_alloc ?_ _) | (with_reducible refine Below.setCell ?_ ?_ _) | (with_reducible refine below_then ?_ (by assumption)) | omega | (simp; done) | (simp; omega))))).mono ?_; rintro e w1 ⟨rfl, hb1⟩; rw [HV.out]; have hz1 := hb1.size; (try simp at hz1); obtain ⟨hc1_0, hf1_0, hx1_0⟩ := bcell0 hb1 w.heap.size (by first | assumption | omega | (simp; done) | (simp; omega)))
      have hb1' : Below w.heap.size w w1 := (by repeat' (first | (with_reducible exact Below.refl _ _) | (with_reducible assumption) | (with_reducible refine below_drewN ?_ _) | (with_reducible refine Below.drew ?_) | (with_reducible refine below_alloc ?_ _) | (with_reducible refine Below.setCell ?_ ?_ _) | (with_reducible refine below_then ?_ (by assumption)) | omega | (simp; done) | (simp; omega)))
      have HS1 := HS.below hb1'
      have HX1 := HX.below hb1'
      have k0 : w1.cell? ⟨w.heap.size, 0, none⟩ = some (.int .i64 d) := by rw [hc1_0]; go_simp
      have k1 : w1.cell? ⟨w.heap.size, 1, none⟩ = some (.slice A xs.length c) := by rw [hc1_0]; go_simp
      clear hb1 hc1_0 hf1_0
      go_wp2_with fail
      go_loopw [6] (fun i wr => ∃ k n : Nat, 1 ≤ k ∧ (k ≤ ls.length ∨ k = 1) ∧ i = .int .i64 k ∧ wr = w1.drewN n ∧ Hid (∀ j, 1 ≤ j → j < k → gi ls (j - 1) < gi ls j)) (fun i _ => ls.length - (intOf i).toNat)
      case atStart => exact ⟨1, 0, Nat.le_refl _, .inr rfl, rfl, rfl, fun j h1 h2 => absurd h2 (by omega)⟩
      case round =>
        obtain ⟨k, n, hk1, hk, rfl, rfl, hasc⟩ := hrel
        by_cases hlt : k < ls.length
        · have hkk : k ≤ ls.length := by omega
          have hpi : (0 : Int) < k := by omega
          have hki : (k : Int) < ls.length := by omega
          obtain ⟨ad, rfl, hc⟩ := HS1.at_ hlt
          obtain ⟨ad', ea, hc'⟩ := HS1.at_ (show k - 1 < ls.length by omega)
          injection ea with ea
          subst ea
          by_cases hd3 : gi ls (k - 1) < gi ls k
          · have HA := Lib.hid hd3
            go_wp2_with fail
            have hwr : IntKind.i64.wrap ((k : Int) - 1) = ((k - 1 : Nat) : Int) := (IntWalk.i64_in _ (by omega)).trans (by omega)
            have hki3 : ((k - 1 : Nat) : Int) < ls.length := by omega
            have hg : decide (gi ls k ≤ gi ls (k - 1)) = false := by simp; omega
            go_quiet (fail)
            clear hwr
            go_wp2_with fail
            go_roundw
            case rel =>
              refine ⟨k + 1, _, by omega, .inl (by omega), by go_num, rfl, fun j h1 h2 => ?_⟩
              rcases Nat.lt_or_ge j k with h | h
              · exact hasc.out j h1 h
              · obtain rfl : j = k := by omega
                exact HA.out
            case measure => simp [intOf]; omega
          · have HN := Lib.hid (bandOk_c (z := d) (xs := xs) (ascB_no hlt hk1 hd3))
            go_wp2_with fail
            have hwr : IntKind.i64.wrap ((k : Int) - 1) = ((k - 1 : Nat) : Int) := (IntWalk.i64_in _ (by omega)).trans (by omega)
            have hki3 : ((k - 1 : Nat) : Int) < ls.length := by omega
            have hg : decide (gi ls k ≤ gi ls (k - 1)) = true := by simp; omega
            go_quiet (fail)
            clear hwr
            go_wp2_with fail
            exact bodyPost_ret (v := .tuple #[.slice none 0 0, .bool false]) (by simp only [results, Try.results25]; go_simp) rfl (bandRes_no HN.out (by repeat' (first | (with_reducible exact Below.refl _ _) | (with_reducible assumption) | (with_reducible refine below_drewN ?_ _) | (with_reducible refine Below.drew ?_) | (with_reducible refine below_alloc ?_ _) | (with_reducible refine Below.setCell ?_ ?_ _) | (with_reducible refine below_then ?_ (by assumption)) | omega | (simp; done) | (simp; omega))))
        · have HOK := Lib.hid (bandOk_yes HV.out hn' (ascB_yes fun j h1 h2 => hasc.out j h1 (by omega)))
          have hmk : ∀ W : World, (Instr.makeSlice 22 (.int .i64 ((ls.length : Int) + 1)) (.int .i64 ((ls.length : Int) + 1))).run Try.prog W = .ok (.slice (some ⟨W.heap.size, 0, none⟩) (ls.length + 1) (ls.length + 1)) (W.alloc (.cells (List.replicate (ls.length + 1) (.int .i64 0)).toArray 2)) := fun W => by
            have h := run_make_row' (P := Try.prog) 22 2 (.int .i64 0) 8 Try.underlying22 infoI64 rfl .i64 .i64 (ls.length + 1) (by omega) (by omega) W
            rw [made_one] at h
            exact h
          go_wp2_with fail
          obtain ⟨us, hus⟩ : ∃ us, uses d xs = us := ⟨_, rfl⟩
          have hul : us.length ≤ 256 := by rw [← hus]; exact uses_le d hnx
          have HUS := Lib.hid hus
          have hO : Blk (w1.alloc (.cells (Array.replicate (ls.length + 1) (.int .i64 0)) 2)) w1.heap.size 2 ((bandsAt ls us 0).map iv) := by
            have := Blk.new w1 2 ((bandsAt ls us 0).map iv)
            simpa [bandsAt_zero, iv] using this
          clear hus hmk
          refine (usesI_any w.heap.size 0 d A c xs _ (cell_keep (by repeat' (first | (with_reducible exact Below.refl _ _) | (with_reducible assumption) | (with_reducible refine below_drewN ?_ _) | (with_reducible refine Below.drew ?_) | (with_reducible refine below_alloc ?_ _) | (with_reducible refine Below.setCell ?_ ?_ _) | (with_reducible refine below_then ?_ (by assumption)) | exact below_then (Below.drew (Below.refl _ _)) (by assumption) | omega | (simp; done) | (simp; omega))) k0) (cell_keep (by repeat' (first | (with_reducible exact Below.refl _ _) | (with_reducible assumption) | (with_reducible refine below_drewN ?_ _) | (with_reducible refine Below.drew ?_) | (with_reducible refine below_alloc ?_ _) | (with_reducible refine Below.setCell ?_ ?_ _) | (with_reducible refine below_then ?_ (by assumption)) | exact below_then (Below.drew (Below.refl _ _)) (by assumption) | omega | (simp; done) | (simp; omega))) k1) (HX1.below (by repeat' (first | (with_reducible exact Below.refl _ _) | (with_reducible assumption) | (with_reducible refine below_drewN ?_ _) | (with_reducible refine Below.drew ?_) | (with_reducible refine below_alloc ?_ _) | (with_reducible refine Below.setCell ?_ ?_ _) | (with_reducible refine below_then ?_ (by assumption)) | exact below_then (Below.drew (Below.refl _ _)) (by assumption) | omega | (simp; done) | (simp; omega)))) hd HRD.out hnx).mono ?_
          rintro r w2 ⟨v, rfl, HO, hb2⟩
          rw [HUS.out] at HO
          have hO2 := (hO.drewN n).below hb2
          have HLS := HS1.below (show Below w1.heap.size w1 w2 from (by repeat' (first | (with_reducible exact Below.refl _ _) | (with_reducible assumption) | (with_reducible refine below_drewN ?_ _) | (with_reducible refine Below.drew ?_) | (with_reducible refine below_alloc ?_ _) | (with_reducible refine Below.setCell ?_ ?_ _) | (with_reducible refine below_then ?_ (by assumption)) | exact below_then (Below.drew (Below.refl _ _)) (by assumption) | omega | (simp; done) | (simp; omega))))
          have hw2 : Below w.heap.size w w2 := below_then hb1' (show Below w1.heap.size w1 w2 from (by repeat' (first | (with_reducible exact Below.refl _ _) | (with_reducible assumption) | (with_reducible refine below_drewN ?_ _) | (with_reducible refine Below.drew ?_) | (with_reducible refine below_alloc ?_ _) | (with_reducible refine Below.setCell ?_ ?_ _) | (with_reducible refine below_then ?_ (by assumption)) | exact below_then (Below.drew (Below.refl _ _)) (by assumption) | omega | (simp; done) | (simp; omega))))
          have lO := hO2.lt
          have hrow : ∀ k, v.ownBlock = some k → w1.heap.size + 1 ≤ k := fun k hk => by
            have := (HO.lt k hk).1
            simpa using this
          have HRW := Lib.hid hrow
          obtain ⟨Au, cu, rfl, _⟩ := HO.rdI
          clear hO HS1 HX1 k0 k1 hb2 hasc hrow
          go_wp2_with fail
          go_loopw [41] (fun i wr => ∃ k : Nat, k ≤ us.length ∧ i = .int .i64 k ∧ Blk wr w1.heap.size 2 ((bandsAt ls us k).map iv) ∧ Wi w1.heap.size (w1.heap.size + 1) w2 wr) (fun i _ => us.length - (intOf i).toNat)
          case atStart => exact ⟨0, Nat.zero_le _, rfl, hO2, Wi.refl _ _ _⟩
          case round =>
            obtain ⟨k3, hk3, rfl, HB, HW⟩ := hrel
            by_cases hlt3 : k3 < us.length
            · have HU := OwnI.rd (owns_wi HO HW (fun k hk => .inr (HRW.out k hk)))
              obtain ⟨au, rfl, hcu⟩ := HU.at_ hlt3
              have hki3 : (k3 : Int) < us.length := by omega
              have hstep := Lib.hid (bandsAt_step (ls := ls) hlt3)
              have hwr := HW.below hw2 hw2.size (show w.heap.size ≤ w1.heap.size by omega)
              have HLr := HS.below hwr
              obtain ⟨u, hu⟩ : ∃ u, gi us k3 = u := ⟨_, rfl⟩
              rw [hu] at hcu
              rw [hu] at hstep
              clear hu
              go_wp2_with fail
              go_loopw [10] (fun kv wi => ∃ j : Nat, j ≤ ls.length ∧ kv = .int .i64 j ∧ wi = wr ∧ Hid (∀ i, i < j → gi ls i ≤ u)) (fun kv _ => ls.length - (intOf kv).toNat)
              case atStart => exact ⟨0, Nat.zero_le _, rfl, rfl, fun i hi => absurd hi (by omega)⟩
              case round =>
                obtain ⟨j, hj, rfl, rfl, hall⟩ := hrel
                by_cases hin : j < ls.length ∧ gi ls j ≤ u
                · obtain ⟨hjl, hju⟩ := hin
                  have hji : (j : Int) < ls.length := by omega
                  obtain ⟨ab, rfl, hcl⟩ := HLr.at_ hjl
                  have HJ := Lib.hid hju
                  go_wp2_with fail
                  go_roundw
                  case rel =>
                    refine ⟨j + 1, by omega, by go_num, by trivial, fun i hi => ?_⟩
                    rcases Nat.lt_or_ge i j with h | h
                    · exact hall.out i h
                    · obtain rfl : i = j := by omega
                      exact HJ.out
                  case measure => simp [intOf]; omega
                · have HK : Hid (bandK ls u = j) := by
                    show _ = _
                    by_cases hjl : j < ls.length
                    · exact bandK_at hjl hall.out (fun h => hin ⟨hjl, h⟩)
                    · obtain rfl : j = ls.length := by omega
                      exact bandK_end hall.out
                  obtain ⟨q, hq⟩ : ∃ q, gi (bandsAt ls us k3) j = q := ⟨_, rfl⟩
                  have hqb := bandsAt_bound ls us k3 (by omega) j
                  rw [hq] at hqb
                  obtain ⟨hq1, hq2⟩ := hqb
                  have hlen := bandsAt_length ls us k3 (by omega)
                  have d0 : wr.cell? ⟨w1.heap.size, j, none⟩ = some (.int .i64 q) := by
                    rw [HB.cell, List.getElem?_map, List.getElem?_eq_getElem (by omega), ← hq, gi_eq (by omega)]
                    rfl
                  have z0 := HB.frozen j
                  have HS2 := HB.set j (iv (q + 1))
                  rw [← hq, bump_map, ← HK.out, ← hstep.out, HK.out, hq] at HS2
                  have HW2 := Wi.set HW j (iv (q + 1))
                  have hjs : j < ls.length + 1 := by omega
                  have hjsi : (j : Int) < (ls.length : Int) + 1 := by omega
                  clear hq hlen hall hwr
                  by_cases hjl : j < ls.length
                  · have hji : (j : Int) < ls.length := by omega
                    obtain ⟨ab, rfl, hcl⟩ := HLr.at_ hjl
                    have hju : ¬ gi ls j ≤ u := fun h => hin ⟨hjl, h⟩
                    clear hin
                    go_wp2_with fail
                    go_roundw
                    case rel => exact ⟨k3 + 1, by omega, by go_num, HS2, HW2⟩
                    case measure => simp [intOf]; omega
                  · clear hin
                    go_wp2_with fail
                    go_roundw
                    case rel => exact ⟨k3 + 1, by omega, by go_num, HS2, HW2⟩
                    case measure => simp [intOf]; omega
            · obtain rfl : k3 = us.length := by omega
              have hwr := HW.below hw2 hw2.size (show w.heap.size ≤ w1.heap.size by omega)
              have hfull : bandsR d xs ls = bandsAt ls us us.length := by rw [bandsR_yes HOK.out, HUS.out]; rfl
              have hown : OwnI wr w.heap.size (.slice (some ⟨w1.heap.size, 0, none⟩) (ls.length + 1) (ls.length + 1)) (bandsR d xs ls) := by
                have hl := bandsAt_length ls us us.length (Nat.le_refl _)
                have := OwnI.of (w := wr) (B := w.heap.size) (xs := bandsAt ls us us.length) (g := w1.heap.size) (cap := ls.length + 1) (ys := []) (by omega) (by simpa using HB) (by omega) (by unfold maxLen; omega) (by simp; omega)
                rw [hl] at this
                rw [hfull]
                exact this
              have HRES : Hid (BandRes w d xs ls (.returned (.tuple #[.slice (some ⟨w1.heap.size, 0, none⟩) (ls.length + 1) (ls.length + 1), .bool true])) wr) := ⟨_, by rw [HOK.out], hown, hwr⟩
              clear hfull hown HB HW hwr
              go_wp2_with fail
              exact bodyPost_ret (v := .tuple #[.slice (some ⟨w1.heap.size, 0, none⟩) (ls.length + 1) (ls.length + 1), .bool true]) (by simp only [results, Try.results25]; go_simp) rfl HRES.out
set_option maxRecDepth 100000 in
set_option maxHeartbeats 4000000 in
theorem bandsS_any (A B : Option Addr) (c e0 : Nat) (z : Int) (xs ls : List Int) (w : World) (HX : RdI w A xs) (HS : RdI w B ls) :
    Calls Try.prog 23 #[meterV z A xs.length c, .slice B ls.length e0] w (BandRes w z xs ls) := by
  have hml := HS.1
  cases hv : validM z xs with
  | false =>
    have HN := Lib.hid (bandOk_a (ls := ls) hv)
    have HV := Lib.hid hv
    clear hv
    go_enter Try.func23, Try.ntmps23
    go_wp2_with fail
    refine (l09Meter_any _ 0 A c z xs _ (by go_simp) (by go_simp) (HX.below (by repeat' (first | (with_reducible exact Below.refl _ _) | (with_reducible assumption) | (with_reducible refine below_drewN ?_ _) | (with_reducible refine Below.drew ?_) | (with_reducible refine below_alloc ?_ _) | (with_reducible refine Below.setCell ?_ ?_ _) | (with_reducible refine below_then ?_ (by assumption)) | omega | (simp; done) | (simp; omega))))).mono ?_
    rintro r w' ⟨rfl, rfl⟩
    rw [HV.out]
    go_wp2_with fail
    exact bodyPost_ret (v := .tuple #[.slice none 0 0, .bool false]) (by simp only [results, Try.results23]; go_simp) rfl (bandRes_no HN.out (by repeat' (first | (with_reducible exact Below.refl _ _) | (with_reducible assumption) | (with_reducible refine below_drewN ?_ _) | (with_reducible refine Below.drew ?_) | (with_reducible refine below_alloc ?_ _) | (with_reducible refine Below.setCell ?_ ?_ _) | (with_reducible refine below_then ?_ (by assumption)) | omega | (simp; done) | (simp; omega))))
  | true =>
    have HV := Lib.hid hv
    by_cases hn : 256 < ls.length
    · have hni : 256 < (ls.length : Int) := by omega
      have HN := Lib.hid (bandOk_b (z := z) (xs := xs) hn)
      clear hv
      go_enter Try.func23, Try.ntmps23
      go_wp2_with fail
      refine (l09Meter_any _ 0 A c z xs _ (by go_simp) (by go_simp) (HX.below (by repeat' (first | (with_reducible exact Below.refl _ _) | (with_reducible assumption) | (with_reducible refine below_drewN ?_ _) | (with_reducible refine Below.drew ?_) | (with_reducible refine below_alloc ?_ _) | (with_reducible refine Below.setCell ?_ ?_ _) | (with_reducible refine below_then ?_ (by assumption)) | omega | (simp; done) | (simp; omega))))).mono ?_
      rintro r w' ⟨rfl, rfl⟩
      rw [HV.out]
      go_wp2_with fail
      exact bodyPost_ret (v := .tuple #[.slice none 0 0, .bool false]) (by simp only [results, Try.results23]; go_simp) rfl (bandRes_no HN.out (by repeat' (first | (with_reducible exact Below.refl _ _) | (with_reducible assumption) | (with_reducible refine below_drewN ?_ _) | (with_reducible refine Below.drew ?_) | (with_reducible refine below_alloc ?_ _) | (with_reducible refine Below.setCell ?_ ?_ _) | (with_reducible refine below_then ?_ (by assumption)) | omega | (simp; done) | (simp; omega))))
    · have hni : ¬ 256 < (ls.length : Int) := by omega
      have hn' : ls.length ≤ 256 := by omega
      obtain ⟨d, rfl, hd1, hd, hnx, hr⟩ := validM_yes hv
      have HRD := Lib.hid hr
      clear hv hr
      go_enter Try.func23, Try.ntmps23
      go_wp2_with fail
      refine (l09Meter_any _ 0 A c d xs _ (by go_simp) (by go_simp) (HX.below (by repeat' (first | (with_reducible exact Below.refl _ _) | (with_reducible assumption) | (with_reducible refine below_drewN ?_ _) | (with_reducible refine Below.drew ?_) | (with_reducible refine below_alloc ?_ _) | (with_reducible refine Below.setCell ?_ ?_ _) | (with_reducible refine below_then ?_ (by assumption)) | omega | (simp; done) | (simp; omega))))).mono ?_
      rintro r w' ⟨rfl, rfl⟩
      rw [HV.out]
      have KB := Blk.new w 27 [.int .i64 (d : Int), .slice A xs.length c]
      generalize hw1 : w.alloc (.cells #[.int .i64 (d : Int), .slice A xs.length c] 27) = w1
      have hb1' : Below w.heap.size w w1 := by rw [← hw1]; exact (by repeat' (first | (with_reducible exact Below.refl _ _) | (with_reducible assumption) | (with_reducible refine below_drewN ?_ _) | (with_reducible refine Below.drew ?_) | (with_reducible refine below_alloc ?_ _) | (with_reducible refine Below.setCell ?_ ?_ _) | (with_reducible refine below_then ?_ (by assumption)) | omega | (simp; done) | (simp; omega)))
      have HS1 := HS.below hb1'
      have HX1 := HX.below hb1'
      have KB' : Blk w1 w.heap.size 27 [.int .i64 (d : Int), .slice A xs.length c] := by rw [← hw1]; exact KB
      have k0 : w1.cell? ⟨w.heap.size, 0, none⟩ = some (.int .i64 d) := KB'.c0
      have k1 : w1.cell? ⟨w.heap.size, 1, none⟩ = some (.slice A xs.length c) := KB'.c1
      have hx1_0 : w.heap.size < w1.heap.size := by rw [← hw1]; simp
      clear hw1 KB KB'
      go_wp2_with fail
      go_loopw [6] (fun i wr => ∃ k n : Nat, 1 ≤ k ∧ (k ≤ ls.length ∨ k = 1) ∧ i = .int .i64 k ∧ wr = w1.drewN n ∧ Hid (∀ j, 1 ≤ j → j < k → gi ls (j - 1) < gi ls j)) (fun i _ => ls.length - (intOf i).toNat)
      case atStart => exact ⟨1, 0, Nat.le_refl _, .inr rfl, rfl, rfl, fun j h1 h2 => absurd h2 (by omega)⟩
      case round =>
        obtain ⟨k, n, hk1, hk, rfl, rfl, hasc⟩ := hrel
        by_cases hlt : k < ls.length
        · have hkk : k ≤ ls.length := by omega
          have hpi : (0 : Int) < k := by omega
          have hki : (k : Int) < ls.length := by omega
          obtain ⟨ad, rfl, hc⟩ := HS1.at_ hlt
          obtain ⟨ad', ea, hc'⟩ := HS1.at_ (show k - 1 < ls.length by omega)
          injection ea with ea
          subst ea
          by_cases hd3 : gi ls (k - 1) < gi ls k
          · have HA := Lib.hid hd3
            go_wp2_with fail
            have hwr : IntKind.i64.wrap ((k : Int) - 1) = ((k - 1 : Nat) : Int) := (IntWalk.i64_in _ (by omega)).trans (by omega)
            have hki3 : ((k - 1 : Nat) : Int) < ls.length := by omega
            have hg : decide (gi ls k ≤ gi ls (k - 1)) = false := by simp; omega
            go_quiet (fail)
            clear hwr
            go_wp2_with fail
            go_roundw
            case rel =>
              refine ⟨k + 1, _, by omega, .inl (by omega), by go_num, rfl, fun j h1 h2 => ?_⟩
              rcases Nat.lt_or_ge j k with h | h
              · exact hasc.out j h1 h
              · obtain rfl : j = k := by omega
                exact HA.out
            case measure => simp [intOf]; omega
          · have HN := Lib.hid (bandOk_c (z := d) (xs := xs) (ascB_no hlt hk1 hd3))
            go_wp2_with fail
            have hwr : IntKind.i64.wrap ((k : Int) - 1) = ((k - 1 : Nat) : Int) := (IntWalk.i64_in _ (by omega)).trans (by omega)
            have hki3 : ((k - 1 : Nat) : Int) < ls.length := by omega
            have hg : decide (gi ls k ≤ gi ls (k - 1)) = true := by simp; omega
            go_quiet (fail)
            clear hwr
            go_wp2_with fail
            exact bodyPost_ret (v := .tuple #[.slice none 0 0, .bool false]) (by simp only [results, Try.results23]; go_simp) rfl (bandRes_no HN.out (by repeat' (first | (with_reducible exact Below.refl _ _) | (with_reducible assumption) | (with_reducible refine below_drewN ?_ _) | (with_reducible refine Below.drew ?_) | (with_reducible refine below_alloc ?_ _) | (with_reducible refine Below.setCell ?_ ?_ _) | (with_reducible refine below_then ?_ (by assumption)) | omega | (simp; done) | (simp; omega))))
        · have HOK := Lib.hid (bandOk_yes HV.out hn' (ascB_yes fun j h1 h2 => hasc.out j h1 (by omega)))
          have hmk : ∀ W : World, (Instr.makeSlice 22 (.int .i64 ((ls.length : Int) + 1)) (.int .i64 ((ls.length : Int) + 1))).run Try.prog W = .ok (.slice (some ⟨W.heap.size, 0, none⟩) (ls.length + 1) (ls.length + 1)) (W.alloc (.cells (List.replicate (ls.length + 1) (.int .i64 0)).toArray 2)) := fun W => by
            have h := run_make_row' (P := Try.prog) 22 2 (.int .i64 0) 8 Try.underlying22 infoI64 rfl .i64 .i64 (ls.length + 1) (by omega) (by omega) W
            rw [made_one] at h
            exact h
          go_wp2_with fail
          obtain ⟨us, hus⟩ : ∃ us, uses d xs = us := ⟨_, rfl⟩
          have hul : us.length ≤ 256 := by rw [← hus]; exact uses_le d hnx
          have HUS := Lib.hid hus
          have hO : Blk (w1.alloc (.cells (Array.replicate (ls.length + 1) (.int .i64 0)) 2)) w1.heap.size 2 ((bandsAt ls us 0).map iv) := by
            have := Blk.new w1 2 ((bandsAt ls us 0).map iv)
            simpa [bandsAt_zero, iv] using this
          clear hus hmk
          refine (l09Uses_any w.heap.size 0 d A c xs _ (cell_keep (by repeat' (first | (with_reducible exact Below.refl _ _) | (with_reducible assumption) | (with_reducible refine below_drewN ?_ _) | (with_reducible refine Below.drew ?_) | (with_reducible refine below_alloc ?_ _) | (with_reducible refine Below.setCell ?_ ?_ _) | (with_reducible refine below_then ?_ (by assumption)) | exact below_then (Below.drew (Below.refl _ _)) (by assumption) | omega | (simp; done) | (simp; omega))) k0) (cell_keep (by repeat' (first | (with_reducible exact Below.refl _ _) | (with_reducible assumption) | (with_reducible refine below_drewN ?_ _) | (with_reducible refine Below.drew ?_) | (with_reducible refine below_alloc ?_ _) | (with_reducible refine Below.setCell ?_ ?_ _) | (with_reducible refine below_then ?_ (by assumption)) | exact below_then (Below.drew (Below.refl _ _)) (by assumption) | omega | (simp; done) | (simp; omega))) k1) (HX1.below (by repeat' (first | (with_reducible exact Below.refl _ _) | (with_reducible assumption) | (with_reducible refine below_drewN ?_ _) | (with_reducible refine Below.drew ?_) | (with_reducible refine below_alloc ?_ _) | (with_reducible refine Below.setCell ?_ ?_ _) | (with_reducible refine below_then ?_ (by assumption)) | exact below_then (Below.drew (Below.refl _ _)) (by assumption) | omega | (simp; done) | (simp; omega)))) hd HRD.out hnx).mono ?_
          rintro r w2 ⟨v, rfl, HO, hb2⟩
          rw [HUS.out] at HO
          have hO2 := (hO.drewN n).below hb2
          have HLS := HS1.below (show Below w1.heap.size w1 w2 from (by repeat' (first | (with_reducible exact Below.refl _ _) | (with_reducible assumption) | (with_reducible refine below_drewN ?_ _) | (with_reducible refine Below.drew ?_) | (with_reducible refine below_alloc ?_ _) | (with_reducible refine Below.setCell ?_ ?_ _) | (with_reducible refine below_then ?_ (by assumption)) | exact below_then (Below.drew (Below.refl _ _)) (by assumption) | omega | (simp; done) | (simp; omega))))
          have hw2 : Below w.heap.size w w2 := below_then hb1' (show Below w1.heap.size w1 w2 from (by repeat' (first | (with_reducible exact Below.refl _ _) | (with_reducible assumption) | (with_reducible refine below_drewN ?_ _) | (with_reducible refine Below.drew ?_) | (with_reducible refine below_alloc ?_ _) | (with_reducible refine Below.setCell ?_ ?_ _) | (with_reducible refine below_then ?_ (by assumption)) | exact below_then (Below.drew (Below.refl _ _)) (by assumption) | omega | (simp; done) | (simp; omega))))
          have lO := hO2.lt
          have hrow : ∀ k, v.ownBlock = some k → w1.heap.size + 1 ≤ k := fun k hk => by
            have := (HO.lt k hk).1
            simpa using this
          have HRW := Lib.hid hrow
          obtain ⟨Au, cu, rfl, _⟩ := HO.rdI
          clear hO HS1 HX1 k0 k1 hb2 hasc hrow
          go_wp2_with fail
          go_loopw [41] (fun i wr => ∃ k : Nat, k ≤ us.length ∧ i = .int .i64 k ∧ Blk wr w1.heap.size 2 ((bandsAt ls us k).map iv) ∧ Wi w1.heap.size (w1.heap.size + 1) w2 wr) (fun i _ => us.length - (intOf i).toNat)
          case atStart => exact ⟨0, Nat.zero_le _, rfl, hO2, Wi.refl _ _ _⟩
          case round =>
            obtain ⟨k3, hk3, rfl, HB, HW⟩ := hrel
            by_cases hlt3 : k3 < us.length
            · have HU := OwnI.rd (owns_wi HO HW (fun k hk => .inr (HRW.out k hk)))
              obtain ⟨au, rfl, hcu⟩ := HU.at_ hlt3
              have hki3 : (k3 : Int) < us.length := by omega
              have hstep := Lib.hid (bandsAt_step (ls := ls) hlt3)
              have hwr := HW.below hw2 hw2.size (show w.heap.size ≤ w1.heap.size by omega)
              have HLr := HS.below hwr
              obtain ⟨u, hu⟩ : ∃ u, gi us k3 = u := ⟨_, rfl⟩
              rw [hu] at hcu
              rw [hu] at hstep
              clear hu
              go_wp2_with fail
              go_loopw [10] (fun kv wi => ∃ j m : Nat, j ≤ ls.length ∧ kv = .int .i64 j ∧ wi = wr.drewN m ∧ Hid (∀ i, i < j → gi ls i ≤ u)) (fun kv _ => ls.length - (intOf kv).toNat)
              case atStart => exact ⟨0, 0, Nat.zero_le _, rfl, rfl, fun i hi => absurd hi (by omega)⟩
              case round =>
                obtain ⟨j, m, hj, rfl, rfl, hall⟩ := hrel
                by_cases hin : j < ls.length ∧ gi ls j ≤ u
                · obtain ⟨hjl, hju⟩ := hin
                  have hji : (j : Int) < ls.length := by omega
                  obtain ⟨ab, rfl, hcl⟩ := HLr.at_ hjl
                  have HJ := Lib.hid hju
                  have hgu : decide (gi ls j ≤ u) = true := by simpa using hju
                  go_wp2_with fail
                  go_quiet (fail)
                  go_wp2_with fail
                  go_roundw
                  case rel =>
                    refine ⟨j + 1, _, by omega, by go_num, rfl, fun i hi => ?_⟩
                    rcases Nat.lt_or_ge i j with h | h
                    · exact hall.out i h
                    · obtain rfl : i = j := by omega
                      exact HJ.out
                  case measure => simp [intOf]; omega
                · have HK : Hid (bandK ls u = j) := by
                    show _ = _
                    by_cases hjl : j < ls.length
                    · exact bandK_at hjl hall.out (fun h => hin ⟨hjl, h⟩)
                    · obtain rfl : j = ls.length := by omega
                      exact bandK_end hall.out
                  obtain ⟨q, hq⟩ : ∃ q, gi (bandsAt ls us k3) j = q := ⟨_, rfl⟩
                  have hqb := bandsAt_bound ls us k3 (by omega) j
                  rw [hq] at hqb
                  obtain ⟨hq1, hq2⟩ := hqb
                  have hlen := bandsAt_length ls us k3 (by omega)
                  have d0 : wr.cell? ⟨w1.heap.size, j, none⟩ = some (.int .i64 q) := by
                    rw [HB.cell, List.getElem?_map, List.getElem?_eq_getElem (by omega), ← hq, gi_eq (by omega)]
                    rfl
                  have z0 := HB.frozen j
                  have HS2 := HB.set j (iv (q + 1))
                  rw [← hq, bump_map, ← HK.out, ← hstep.out, HK.out, hq] at HS2
                  have HW2 := Wi.set HW j (iv (q + 1))
                  have hjs : j < ls.length + 1 := by omega
                  have hjsi : (j : Int) < (ls.length : Int) + 1 := by omega
                  clear hq hlen hall hwr
                  by_cases hjl : j < ls.length
                  · have hji : (j : Int) < ls.length := by omega
                    obtain ⟨ab, rfl, hcl⟩ := HLr.at_ hjl
                    have hju : ¬ gi ls j ≤ u := fun h => hin ⟨hjl, h⟩
                    have hgu : decide (gi ls j ≤ u) = false := by simpa using hju
                    clear hin
                    go_wp2_with fail
                    go_quiet (fail)
                    go_wp2_with fail
                    go_roundw
                    case rel => exact ⟨k3 + 1, by omega, by go_num, HS2.drewN _, HW2.drewN _⟩
                    case measure => simp [intOf]; omega
                  · clear hin
                    have hgl : decide ((j : Int) < ls.length) = false := by simp; omega
                    go_wp2_with fail
                    go_quiet (fail)
                    go_wp2_with fail
                    go_roundw
                    case rel => exact ⟨k3 + 1, by omega, by go_num, HS2.drewN _, HW2.drewN _⟩
                    case measure => simp [intOf]; omega
            · obtain rfl : k3 = us.length := by omega
              have hwr := HW.below hw2 hw2.size (show w.heap.size ≤ w1.heap.size by omega)
              have hfull : bandsR d xs ls = bandsAt ls us us.length := by rw [bandsR_yes HOK.out, HUS.out]; rfl
              have hown : OwnI wr w.heap.size (.slice (some ⟨w1.heap.size, 0, none⟩) (ls.length + 1) (ls.length + 1)) (bandsR d xs ls) := by
                have hl := bandsAt_length ls us us.length (Nat.le_refl _)
                have := OwnI.of (w := wr) (B := w.heap.size) (xs := bandsAt ls us us.length) (g := w1.heap.size) (cap := ls.length + 1) (ys := []) (by omega) (by simpa using HB) (by omega) (by unfold maxLen; omega) (by simp; omega)
                rw [hl] at this
                rw [hfull]
                exact this
              have HRES : Hid (BandRes w d xs ls (.returned (.tuple #[.slice (some ⟨w1.heap.size, 0, none⟩) (ls.length + 1) (ls.length + 1), .bool true])) wr) := ⟨_, by rw [HOK.out], hown, hwr⟩
              clear hfull hown HB HW hwr
              go_wp2_with fail
              exact bodyPost_ret (v := .tuple #[.slice (some ⟨w1.heap.size, 0, none⟩) (ls.length + 1) (ls.length + 1), .bool true]) (by simp only [results, Try.results23]; go_simp) rfl HRES.out
end Go.Proofs.Ytiikjnokoihhgaa
