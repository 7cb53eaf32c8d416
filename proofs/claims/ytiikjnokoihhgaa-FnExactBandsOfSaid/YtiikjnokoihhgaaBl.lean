/-
  The law FnExactBandsOf, walked.
-/
import Derived.Test.YtiikjnokoihhgaaBw
import Derived.Test.YtiikjnokoihhgaaMs
import Derived.Deep.DeepCutAuto
namespace Go.Proofs.Ytiikjnokoihhgaa
open Go.RowKit Go.Fl Go.Lb

set_option maxRecDepth 100000 in
set_option maxHeartbeats 4000000 in
theorem fnExactBandsOf_walk (A B : Option Addr) (c e0 : Nat) (z : Int) (xs ls : List Int) (w : World) (HX : RdI w A xs) (HS : RdI w B ls) :
    Calls Try.prog 6 #[meterV z A xs.length c, .slice B ls.length e0] w fun e w' => e = .returned (.bool true) ∧ Below w.heap.size w w' := by
  have hm := HX.1
  have hml := HS.1
  by_cases hbig : 1048576 < ls.length
  · have hbi : 1048576 < (ls.length : Int) := by omega
    go_enter Try.func6, Try.ntmps6
    go_wp2_with fail
    go_ret
    exact ⟨rfl, (by repeat' (first | (with_reducible exact Below.refl _ _) | (with_reducible assumption) | (with_reducible refine below_drewN ?_ _) | (with_reducible refine Below.drew ?_) | (with_reducible refine below_alloc ?_ _) | (with_reducible refine Below.setCell ?_ ?_ _) | (with_reducible refine below_then ?_ (by assumption)) | omega | (simp; done) | (simp; omega)))⟩
  have hbi : ¬ 1048576 < (ls.length : Int) := by omega
  have hll : ls.length ≤ 1048576 := by omega
  rcases szM_le (left := 1048576) (n := xs.length) (by omega) with hz | ⟨hz, hz1⟩
  · go_enter Try.func6, Try.ntmps6
    go_wp2_with fail
    (refine (szMeter_any _ _ _ _ _ _ hm (by omega) (by omega)).mono ?_; rintro e w1 ⟨rfl, hb1⟩; have hz1 := hb1.size; (try simp at hz1))
    go_wp2_with fail
    go_ret
    exact ⟨rfl, (by repeat' (first | (with_reducible exact Below.refl _ _) | (with_reducible assumption) | (with_reducible refine below_drewN ?_ _) | (with_reducible refine Below.drew ?_) | (with_reducible refine below_alloc ?_ _) | (with_reducible refine Below.setCell ?_ ?_ _) | (with_reducible refine below_then ?_ (by assumption)) | omega | (simp; done) | (simp; omega)))⟩
  · have hl : xs.length ≤ 1048576 := by omega
    obtain ⟨ok, hok⟩ : ∃ ok, bandOk z xs ls = ok := ⟨_, rfl⟩
    obtain ⟨us, hus⟩ : ∃ us, bandsR z xs ls = us := ⟨_, rfl⟩
    have hul : us.length ≤ 257 := by rw [← hus]; exact bandsR_length z xs ls
    have HR := Lib.hid (And.intro hok hus)
    have HZ := Lib.hid hz
    clear hok hus
    go_enter Try.func6, Try.ntmps6
    clear hz
    go_wp2_with fail
    have A0 := Blk.new w 24 [.int .i64 z, .slice A xs.length c]
    (refine (szMeter_any _ _ _ _ _ _ hm (by omega) (by omega)).mono ?_; rintro e w1 ⟨rfl, hb1⟩; rw [HZ.out]; have HX1 := (HX.below (below_alloc (Below.refl _ _) _)).below hb1; have HS1 := (HS.below (below_alloc (Below.refl _ _) _)).below hb1; have A1 := A0.below hb1; have hz1 := hb1.size; (try simp at hz1); obtain ⟨hc1_0, hf1_0, hx1_0⟩ := bcell0 hb1 w.heap.size (by first | assumption | omega | (simp; done) | (simp; omega)))
    go_wp2_with fail
    (refine (toMeter_any _ _ z xs _ HX1 hl).mono ?_; rintro e w2 ⟨g, rfl, G, hg, hb2⟩; have HS2 := HS1.below hb2; have A2 := A1.below hb2; have hz2 := hb2.size; (try simp at hz2); obtain ⟨hc2_0, hf2_0, hx2_0⟩ := bcell0 hb2 w.heap.size (by first | assumption | omega | (simp; done) | (simp; omega)))
    go_wp2_with fail
    (refine (toInt64S_any _ _ ls _ HS2 hll).mono ?_; rintro e w3 ⟨gl, rfl, GL, hgl, hb3⟩; have GX := (G.below hb3).rdI hm; have GS := GL.rdI hml; have A3 := A2.below hb3; have hz3 := hb3.size; (try simp at hz3); obtain ⟨hc3_0, hf3_0, hx3_0⟩ := bcell0 hb3 w.heap.size (by first | assumption | omega | (simp; done) | (simp; omega)))
    go_wp2_with fail
    refine (bandsS_any _ _ _ _ z xs ls _ GX GS).mono ?_
    rintro e w4 ⟨v1, rfl, O1, hb4⟩
    rw [HR.out.1]
    rw [HR.out.2] at O1
    have A4 := A3.below hb4
    have HW4 : Below w.heap.size w w4 := (by repeat' (first | (with_reducible exact Below.refl _ _) | (with_reducible assumption) | (with_reducible refine below_drewN ?_ _) | (with_reducible refine Below.drew ?_) | (with_reducible refine below_alloc ?_ _) | (with_reducible refine Below.setCell ?_ ?_ _) | (with_reducible refine below_then ?_ (by assumption)) | exact below_then (Below.drew (Below.refl _ _)) (by assumption) | omega | (simp; done) | (simp; omega)))
    have hz4 : w.heap.size < w4.heap.size := A4.lt
    clear hb1 hb2 hb3 hb4 A0 A1 A2 A3 G GL GX GS HX1 HS1 HS2 hc1_0 hf1_0 hx1_0 hc2_0 hf2_0 hx2_0 hc3_0 hf3_0 hx3_0 hz1
    have a0 := A4.c0; have a1 := A4.c1
    go_wp2_with fail
    refine (toMeter_any _ _ z xs _ (HX.below HW4) hl).mono ?_
    rintro e w5 ⟨g', rfl, G', hg', hb5⟩
    have B5 : Below w4.heap.size w4 w5 := hb5
    have lg' := G'.lt
    clear a0 a1 hb5
    go_wp2_with fail
    have X6 := Blk.new w5 27 [.int .i64 z, .slice (some ⟨g', 0, none⟩) xs.length xs.length]
    have ba := below_alloc (Below.refl w5.heap.size w5) (.cells #[.int .i64 z, .slice (some ⟨g', 0, none⟩) xs.length xs.length] 27)
    refine (toInt64S_any _ _ ls _ (HS.below (below_then (below_then HW4 B5) ba)) hll).mono ?_
    rintro e w6 ⟨g9, rfl, G9, hg9, hb6⟩
    have B6 := below_then (below_then B5 ba) hb6
    have X6 := X6.below hb6
    have G6 := (G'.below ba).below hb6
    have lg9 := G9.lt
    have lz6 := hb6.size
    simp at hg9 lz6
    clear G' ba hb6 B5
    have x0 := X6.c0; have x1 := X6.c1
    go_wp2_with fail
    refine (bandsI_any _ _ _ _ z xs ls _ (G6.rdI hm) (G9.rdI hml)).mono ?_
    rintro e w7 ⟨v2, rfl, O2, hb7⟩
    rw [HR.out.1]
    rw [HR.out.2] at O2
    have T7 : MSt w4 w7 w6.heap.size w7.heap.size v2 us := ⟨below_then B6 hb7, O2, O2.lt, B6.size⟩
    have X7 := X6.below hb7
    have G7 := G6.below hb7
    have N7 := G9.below hb7
    clear x0 x1 X6 G6 G9 hb7 B6 O2
    go_wp2_with fail
    refine (eqOwnB_any T7.o2 (O1.below T7.bl)).mono ?_
    rintro r w8 ⟨rfl, hb8⟩
    have T8 := T7.below hb8
    have X8 := X7.below hb8
    have G8 := G7.below hb8
    have N8 := N7.below hb8
    have A8 := A4.below T8.bl
    have HX8 := HX.below (below_then HW4 T8.bl)
    have GX8 := G8.rdI hm
    clear hb8 T7 X7 G7 N7
    have a0 := A8.c0; have a1 := A8.c1; have x0 := X8.c0; have x1 := X8.c1; have ax := A8.lt; have xx := X8.lt
    go_upto_region 13 with fail
    go_cut [56] (fun s56 wx => s56 = .bool false ∧ Below w8.heap.size w8 wx)
    case first =>
      go_region_with (first
        | (go_at_call 12; (refine (toMeter_any _ _ z xs _ (HX8.below (by repeat' (first | (with_reducible exact Below.refl _ _) | (with_reducible assumption) | (with_reducible refine below_drewN ?_ _) | (with_reducible refine Below.drew ?_) | (with_reducible refine below_alloc ?_ _) | (with_reducible refine Below.setCell ?_ ?_ _) | (with_reducible refine below_then ?_ (by assumption)) | exact below_then (Below.drew (Below.refl _ _)) (by assumption) | omega | (simp; done) | (simp; omega)))) hl).mono ?_; rintro e w9 ⟨g9', rfl, H9, hg9', hb9⟩; have HX9 := H9.rdI hm; have GX9 : RdI w9 _ xs := GX8.below (by repeat' (first | (with_reducible exact Below.refl _ _) | (with_reducible assumption) | (with_reducible refine below_drewN ?_ _) | (with_reducible refine Below.drew ?_) | (with_reducible refine below_alloc ?_ _) | (with_reducible refine Below.setCell ?_ ?_ _) | (with_reducible refine below_then ?_ (by assumption)) | exact below_then (Below.drew (Below.refl _ _)) (by assumption) | omega | (simp; done) | (simp; omega))); have hz9 := hb9.size; (try simp at hz9); obtain ⟨hc9_0, hf9_0, hx9_0⟩ := bcell0 hb9 w.heap.size (by first | assumption | omega | (simp; done) | (simp; omega)); obtain ⟨hc9_1, hf9_1, hx9_1⟩ := bcell0 hb9 w5.heap.size (by first | assumption | omega | (simp; done) | (simp; omega))))
        | (go_at_call 14; (refine (eqMeter_any _ _ _ _ z xs _ (GX9.below (by repeat' (first | (with_reducible exact Below.refl _ _) | (with_reducible assumption) | (with_reducible refine below_drewN ?_ _) | (with_reducible refine Below.drew ?_) | (with_reducible refine below_alloc ?_ _) | (with_reducible refine Below.setCell ?_ ?_ _) | (with_reducible refine below_then ?_ (by assumption)) | exact below_then (Below.drew (Below.refl _ _)) (by assumption) | omega | (simp; done) | (simp; omega)))) (HX9.below (by repeat' (first | (with_reducible exact Below.refl _ _) | (with_reducible assumption) | (with_reducible refine below_drewN ?_ _) | (with_reducible refine Below.drew ?_) | (with_reducible refine below_alloc ?_ _) | (with_reducible refine Below.setCell ?_ ?_ _) | (with_reducible refine below_then ?_ (by assumption)) | exact below_then (Below.drew (Below.refl _ _)) (by assumption) | omega | (simp; done) | (simp; omega))))).mono ?_; rintro e w10 ⟨rfl, hb10⟩; have hz10 := hb10.size; (try simp at hz10))))
      all_goals
        go_wp2_with fail
        go_meet
        exact ⟨rfl, (by repeat' (first | (with_reducible exact Below.refl _ _) | (with_reducible assumption) | (with_reducible refine below_drewN ?_ _) | (with_reducible refine Below.drew ?_) | (with_reducible refine below_alloc ?_ _) | (with_reducible refine Below.setCell ?_ ?_ _) | (with_reducible refine below_then ?_ (by assumption)) | exact below_then (Below.drew (Below.refl _ _)) (by assumption) | omega | (simp; done) | (simp; omega)))⟩
    case rest =>
      obtain ⟨rfl, hbc⟩ := hcut
      have T9 := T8.below hbc
      have X9 := X8.below hbc
      have G9 := G8.below hbc
      have N9 := N8.below hbc
      clear T8 X8 G8 N8 A8 HX8 GX8 hbc a0 a1 x0 x1 ax xx
      go_wp2_with fail
      refine (toInt64S_any _ _ ls _ (HS.below (below_then HW4 T9.bl)) hll).mono ?_
      rintro e w10 ⟨g10, rfl, G10, hg10, hb10⟩
      have T10 := T9.below hb10
      have X10 := X9.below hb10
      have G10' := G9.below hb10
      have N10 := N9.below hb10
      clear T9 X9 G9 N9 hb10
      go_wp2_with fail
      refine (eqInt64S_any _ _ _ _ ls _ (N10.rdI hml) (G10.rdI hml)).mono ?_
      rintro e w11 ⟨rfl, n11, hw11⟩
      have hb11 : Below w10.heap.size w10 w11 := by rw [hw11]; exact (by repeat' (first | (with_reducible exact Below.refl _ _) | (with_reducible assumption) | (with_reducible refine below_drewN ?_ _) | (with_reducible refine Below.drew ?_) | (with_reducible refine below_alloc ?_ _) | (with_reducible refine Below.setCell ?_ ?_ _) | (with_reducible refine below_then ?_ (by assumption)) | exact below_then (Below.drew (Below.refl _ _)) (by assumption) | omega | (simp; done) | (simp; omega)))
      have T11 := T10.below hb11
      have X11 := X10.below hb11
      have G11 := G10'.below hb11
      have N11 := N10.below hb11
      clear T10 X10 G10' N10 hb11 hw11 G10
      have x0 := X11.c0; have x1 := X11.c1
      go_wp2_with fail
      refine (markMeter_any g' 1 z xs _ G11 hl (by omega)).mono ?_
      rintro r w12 ⟨rfl, hg12⟩
      have T12 := T11.markX (Wi.of_grown hg12 (fun k hk => by injection hk with hk; omega))
      have N12 : OwnI w12 w4.heap.size (.slice (some ⟨g9, 0, none⟩) ls.length ls.length) ls := OwnI.of (ys := []) (by omega) (by simpa using Blk.grown N11 hg12 (fun e => by injection e; omega)) (Nat.le_refl _) (by unfold maxLen; omega) (by simp)
      clear T11 X11 G11 N11 hg12 x0 x1
      obtain ⟨y, hy⟩ : ∃ y, 1 + xs.length = y := ⟨_, rfl⟩
      rw [hy]
      have hy1 : 1 ≤ y ∧ y ≤ 1048577 := by omega
      clear hy
      go_wp2_with fail
      refine (markOwnI_wi (lo := w4.heap.size) (hi := w6.heap.size) y N12 (fun k hk => by injection hk with hk; have h9 : g9 = k := hk; omega) hll (by omega)).mono ?_
      rintro r w13 ⟨rfl, _, hw13⟩
      have T13 := T12.markX hw13
      clear T12 N12 hw13
      obtain ⟨y2, hy2⟩ : ∃ y2, y + ls.length = y2 := ⟨_, rfl⟩
      rw [hy2]
      have hy3 : 1 ≤ y2 := by omega
      clear hy2
      go_wp2_with fail
      refine (eqOwnB_any T13.o2 (O1.below T13.bl)).mono ?_
      rintro r w14 ⟨rfl, hb14⟩
      have T14 := T13.below hb14
      clear T13 hb14
      go_wp2_with fail
      refine (markOwnI_wi 1 T14.o2 T14.r2 (by omega) (by omega)).mono ?_
      rintro r w15 ⟨rfl, M15, hw15⟩
      have T15 := T14.markV hw15 M15
      clear T14 M15 hw15
      obtain ⟨t, ht⟩ : ∃ t, 1 + us.length = t := ⟨_, rfl⟩
      rw [ht]
      have HT := Lib.hid ht
      have ht1 : 1 ≤ t := by omega
      clear ht
      go_wp2_with fail
      refine (heldOwnI_any 1 us.length T15.o2 (by omega) (by omega)).mono ?_
      rintro r w' ⟨rfl, rfl⟩
      rw [HT.out]
      have A15 := A4.below T15.bl
      have a0 := A15.c0; have a1 := A15.c1
      go_wp2_with fail
      refine (toMeter_any _ _ z xs _ (HX.below (below_then HW4 T15.bl)) hl).mono ?_
      rintro e w16 ⟨g16, rfl, G16, hg16, hb16⟩
      have T16 := T15.below hb16
      clear T15 A15 a0 a1 hb16
      go_wp2_with fail
      refine (toInt64S_any _ _ ls _ (HS.below (below_then HW4 T16.bl)) hll).mono ?_
      rintro e w17 ⟨g17, rfl, G17, hg17, hb17⟩
      have T17 := T16.below hb17
      have G17' := G16.below hb17
      clear T16 hb17 G16
      go_wp2_with fail
      refine (bandsI_any _ _ _ _ z xs ls _ (G17'.rdI hm) (G17.rdI hml)).mono ?_
      rintro e w18 ⟨v3, rfl, O3, hb18⟩
      rw [HR.out.1]
      rw [HR.out.2] at O3
      have T18 := T17.below hb18
      clear T17 hb18 G17 G17'
      go_wp2_with fail
      refine (eqOwnB_any O3 (O1.below T18.bl)).mono ?_
      rintro r w19 ⟨rfl, hb19⟩
      have T19 := T18.below hb19
      clear T18 hb19
      go_wp2_with fail
      refine (heldOwnI_any 1 us.length T19.o2 (by omega) (by omega)).mono ?_
      rintro r w' ⟨rfl, rfl⟩
      rw [HT.out]
      have hbl := below_then HW4 T19.bl
      go_wp2_with fail
      go_ret
      exact ⟨rfl, hbl⟩
end Go.Proofs.Ytiikjnokoihhgaa
