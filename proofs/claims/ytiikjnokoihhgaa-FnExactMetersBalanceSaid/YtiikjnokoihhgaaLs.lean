/-
  The law FnExactMetersBalance, walked.
-/
import Derived.Test.YtiikjnokoihhgaaLr
import Derived.Test.YtiikjnokoihhgaaMs
import Derived.Deep.DeepCutAuto
namespace Go.Proofs.Ytiikjnokoihhgaa
open Go.RowKit Go.Fl Go.Lb

theorem MB.grown {w w' : World} {lo g x : Nat} {G : Nat → Nat} {ms : List Mt} (h : MB w lo g G ms) (hg : w.grownBy w' (some x)) (hx : x < g) : MB w' lo g G ms :=
  ⟨Blk.grown h.row hg (fun e => by injection e; omega), h.ge, fun j hj => ⟨Blk.grown (h.blk j hj).1 hg (fun e => by injection e; have := (h.blk j hj).2; omega), (h.blk j hj).2⟩, h.inc⟩
theorem MB.tops {w : World} {lo g : Nat} {G : Nat → Nat} {ms : List Mt} (h : MB w lo g G ms) : g < w.heap.size ∧ ∀ j, j < ms.length → G j < w.heap.size := ⟨h.row.lt, fun j hj => (h.blk j hj).1.lt⟩
set_option maxRecDepth 100000 in
set_option maxHeartbeats 4000000 in
theorem fnExactMetersBalance_walk (A B : Option Addr) (c e0 : Nat) (z : Int) (xs : List Int) (ms : List Mt) (w : World) (HX : RdI w A xs) (HS : RdM w B ms) :
    Calls Try.prog 8 #[meterV z A xs.length c, .slice B ms.length e0] w fun e w' => e = .returned (.bool true) ∧ Below w.heap.size w w' := by
  have hm := HX.1
  have hml := HS.1
  rcases szM_le (left := 1048576) (n := xs.length) (by omega) with hz | ⟨hz, hz1⟩
  · go_enter Try.func8, Try.ntmps8
    go_wp2_with fail
    (refine (szMeter_any _ _ _ _ _ _ hm (by omega) (by omega)).mono ?_; rintro e w1 ⟨rfl, hb1⟩; have hz1 := hb1.size; (try simp at hz1))
    go_wp2_with fail
    go_ret
    exact ⟨rfl, (by repeat' (first | (with_reducible exact Below.refl _ _) | (with_reducible assumption) | (with_reducible refine below_drewN ?_ _) | (with_reducible refine Below.drew ?_) | (with_reducible refine below_alloc ?_ _) | (with_reducible refine Below.setCell ?_ ?_ _) | (with_reducible refine below_then ?_ (by assumption)) | omega | (simp; done) | (simp; omega)))⟩
  · have hl : xs.length ≤ 1048576 := by omega
    obtain ⟨ok, hok⟩ : ∃ ok, balOk z xs ms = ok := ⟨_, rfl⟩
    obtain ⟨us, hus⟩ : ∃ us, balR z xs ms = us := ⟨_, rfl⟩
    have hul : us.length ≤ 256 := by rw [← hus]; exact balR_length z xs ms
    have HR := Lib.hid (And.intro hok hus)
    have HZ := Lib.hid hz
    clear hok hus
    go_enter Try.func8, Try.ntmps8
    clear hz
    go_wp2_with fail
    have A0 := Blk.new w 24 [.int .i64 z, .slice A xs.length c]
    (refine (szMeter_any _ _ _ _ _ _ hm (by omega) (by omega)).mono ?_; rintro e w1 ⟨rfl, hb1⟩; rw [HZ.out]; have HX1 := (HX.below (below_alloc (Below.refl _ _) _)).below hb1; have HS1 := (HS.below (below_alloc (Below.refl _ _) _)).below hb1; have A1 := A0.below hb1; have hz1 := hb1.size; (try simp at hz1); obtain ⟨hc1_0, hf1_0, hx1_0⟩ := bcell0 hb1 w.heap.size (by first | assumption | omega | (simp; done) | (simp; omega)))
    go_wp2_with fail
    refine (szMeterS_any B e0 ms (1048576 - xs.length) _ HS1 (by omega) (by omega)).mono ?_
    rintro e wS ⟨r0, rfl, hr0, hbS⟩
    have HX1 := HX1.below hbS
    have HS1 := HS1.below hbS
    have A1 := A1.below hbS
    have hb1 : Below w.heap.size w wS := below_then (below_then (below_alloc (Below.refl _ _) _) hb1) hbS
    clear hc1_0 hf1_0 hx1_0
    rcases hr0 with rfl | ⟨hr1, hr2⟩
    · go_wp2_with fail
      go_ret
      exact ⟨rfl, hb1⟩
    have hln : ms.length ≤ 1048576 := by omega
    have htot : tot ms ms.length ≤ 1048576 := by omega
    have hA9 : 1 + xs.length + ms.length + tot ms ms.length ≤ 2097152 := by omega
    have hll : ∀ j, j < ms.length → (gm ms j).2.length ≤ 1048576 := fun j hj => Nat.le_trans (len_le_tot hj) htot
    have HLL := Lib.hid hll
    clear hll hr2
    have a00 := A1.c0; have a01 := A1.c1
    go_wp2_with fail
    (refine (toMeter_any _ _ z xs _ HX1 hl).mono ?_; rintro e w2 ⟨g, rfl, G, hg, hb2⟩; have HS2 := HS1.below hb2; have A2 := A1.below hb2; have hz2 := hb2.size; (try simp at hz2))
    go_wp2_with fail
    (refine (toMeterS_any _ _ ms _ HS2 hln HLL.out).mono ?_; rintro e w3 ⟨gl, GL, rfl, ML, hb3⟩; have GX := (G.below hb3).rdI hm; have GS := ML.rdM hln HLL.out; have A3 := A2.below hb3; have hz3 := hb3.size; (try simp at hz3))
    go_wp2_with fail
    refine (balS_any _ _ _ _ z xs ms _ GX GS).mono ?_
    rintro e w4 ⟨v1, rfl, O1, hb4⟩
    rw [HR.out.1]
    rw [HR.out.2] at O1
    have A4 := A3.below hb4
    have HW4 : Below w.heap.size w w4 := (by repeat' (first | (with_reducible exact Below.refl _ _) | (with_reducible assumption) | (with_reducible refine below_drewN ?_ _) | (with_reducible refine Below.drew ?_) | (with_reducible refine below_alloc ?_ _) | (with_reducible refine Below.setCell ?_ ?_ _) | (with_reducible refine below_then ?_ (by assumption)) | exact below_then (Below.drew (Below.refl _ _)) (by assumption) | omega | (simp; done) | (simp; omega)))
    have hz4 : w.heap.size < w4.heap.size := A4.lt
    clear hb1 hb2 hb3 hb4 hbS A0 A1 A2 A3 G ML GX GS HX1 HS1 HS2 hz1 a00 a01
    have a0 := A4.c0; have a1 := A4.c1
    go_wp2_with fail
    refine (toMeter_any _ _ z xs _ (HX.below HW4) hl).mono ?_
    rintro e w5 ⟨g', rfl, G', hg', hb5⟩
    have B5 : Below w4.heap.size w4 w5 := hb5
    have lg' := G'.lt
    clear a0 a1 hb5
    go_wp2_with fail
    have X6 := Blk.new w5 27 [.int .i64 z, .slice (some ⟨g', 0, none⟩) xs.length xs.length]
    have ba := below_alloc (Below.refl w5.heap.size w5) (.cells #[.int .i64 z, .slice (some ⟨g', 0, none⟩) xs.length xs.length] 27)
    refine (toMeterS_any _ _ ms _ (HS.below (below_then (below_then HW4 B5) ba)) hln HLL.out).mono ?_
    rintro e w6 ⟨g9, G9f, rfl, G9, hb6⟩
    have B6 := below_then (below_then B5 ba) hb6
    have X6 := X6.below hb6
    have G6 := (G'.below ba).below hb6
    have hg9 := G9.ge
    have HTP := Lib.hid G9.tops
    have lz6 := hb6.size
    simp at hg9 lz6
    clear G' ba hb6 B5
    have x0 := X6.c0; have x1 := X6.c1
    go_wp2_with fail
    refine (balI_any _ _ _ _ z xs ms _ (G6.rdI hm) (G9.rdM hln HLL.out)).mono ?_
    rintro e w7 ⟨v2, rfl, O2, hb7⟩
    rw [HR.out.1]
    rw [HR.out.2] at O2
    have T7 : MSt w4 w7 w6.heap.size w7.heap.size v2 us := ⟨below_then B6 hb7, O2, O2.lt, B6.size⟩
    have X7 := X6.below hb7
    have G7 := G6.below hb7
    have N7 := G9.below hb7
    clear x0 x1 X6 G6 G9 hb7 B6 O2
    go_wp2_with fail
    refine (eqOwnB_any T7.o2 (O1.below T7.bl)).mono ?_
    rintro r w8 ⟨rfl, hb8⟩
    have T8 := T7.below hb8
    have X8 := X7.below hb8
    have G8 := G7.below hb8
    have N8 := N7.below hb8
    have A8 := A4.below T8.bl
    have HX8 := HX.below (below_then HW4 T8.bl)
    have GX8 := G8.rdI hm
    clear hb8 T7 X7 G7 N7
    have a0 := A8.c0; have a1 := A8.c1; have x0 := X8.c0; have x1 := X8.c1; have ax := A8.lt; have xx := X8.lt
    go_upto_region 14 with fail
    go_cut [58] (fun s58 wx => s58 = .bool false ∧ Below w8.heap.size w8 wx)
    case first =>
      go_region_with (first
        | (go_at_call 12; (refine (toMeter_any _ _ z xs _ (HX8.below (by repeat' (first | (with_reducible exact Below.refl _ _) | (with_reducible assumption) | (with_reducible refine below_drewN ?_ _) | (with_reducible refine Below.drew ?_) | (with_reducible refine below_alloc ?_ _) | (with_reducible refine Below.setCell ?_ ?_ _) | (with_reducible refine below_then ?_ (by assumption)) | exact below_then (Below.drew (Below.refl _ _)) (by assumption) | omega | (simp; done) | (simp; omega)))) hl).mono ?_; rintro e w9 ⟨g9', rfl, H9, hg9', hb9⟩; have HX9 := H9.rdI hm; have GX9 : RdI w9 _ xs := GX8.below (by repeat' (first | (with_reducible exact Below.refl _ _) | (with_reducible assumption) | (with_reducible refine below_drewN ?_ _) | (with_reducible refine Below.drew ?_) | (with_reducible refine below_alloc ?_ _) | (with_reducible refine Below.setCell ?_ ?_ _) | (with_reducible refine below_then ?_ (by assumption)) | exact below_then (Below.drew (Below.refl _ _)) (by assumption) | omega | (simp; done) | (simp; omega))); have hz9 := hb9.size; (try simp at hz9); obtain ⟨hc9_0, hf9_0, hx9_0⟩ := bcell0 hb9 w.heap.size (by first | assumption | omega | (simp; done) | (simp; omega)); obtain ⟨hc9_1, hf9_1, hx9_1⟩ := bcell0 hb9 w5.heap.size (by first | assumption | omega | (simp; done) | (simp; omega))))
        | (go_at_call 14; (refine (eqMeter_any _ _ _ _ z xs _ (GX9.below (by repeat' (first | (with_reducible exact Below.refl _ _) | (with_reducible assumption) | (with_reducible refine below_drewN ?_ _) | (with_reducible refine Below.drew ?_) | (with_reducible refine below_alloc ?_ _) | (with_reducible refine Below.setCell ?_ ?_ _) | (with_reducible refine below_then ?_ (by assumption)) | exact below_then (Below.drew (Below.refl _ _)) (by assumption) | omega | (simp; done) | (simp; omega)))) (HX9.below (by repeat' (first | (with_reducible exact Below.refl _ _) | (with_reducible assumption) | (with_reducible refine below_drewN ?_ _) | (with_reducible refine Below.drew ?_) | (with_reducible refine below_alloc ?_ _) | (with_reducible refine Below.setCell ?_ ?_ _) | (with_reducible refine below_then ?_ (by assumption)) | exact below_then (Below.drew (Below.refl _ _)) (by assumption) | omega | (simp; done) | (simp; omega))))).mono ?_; rintro e w10 ⟨rfl, hb10⟩; have hz10 := hb10.size; (try simp at hz10))))
      all_goals
        go_wp2_with fail
        go_meet
        exact ⟨rfl, (by repeat' (first | (with_reducible exact Below.refl _ _) | (with_reducible assumption) | (with_reducible refine below_drewN ?_ _) | (with_reducible refine Below.drew ?_) | (with_reducible refine below_alloc ?_ _) | (with_reducible refine Below.setCell ?_ ?_ _) | (with_reducible refine below_then ?_ (by assumption)) | exact below_then (Below.drew (Below.refl _ _)) (by assumption) | omega | (simp; done) | (simp; omega)))⟩
    case rest =>
      obtain ⟨rfl, hbc⟩ := hcut
      have T9 := T8.below hbc
      have X9 := X8.below hbc
      have G9 := G8.below hbc
      have N9 := N8.below hbc
      clear T8 X8 G8 N8 A8 HX8 GX8 hbc a0 a1 x0 x1 ax xx
      go_wp2_with fail
      refine (toMeterS_any _ _ ms _ (HS.below (below_then HW4 T9.bl)) hln HLL.out).mono ?_
      rintro e w10 ⟨g10, G10f, rfl, G10, hb10⟩
      have T10 := T9.below hb10
      have X10 := X9.below hb10
      have G10' := G9.below hb10
      have N10 := N9.below hb10
      clear T9 X9 G9 N9 hb10
      go_wp2_with fail
      refine (eqMeterS_any _ _ _ _ ms _ (N10.rdM hln HLL.out) (G10.rdM hln HLL.out)).mono ?_
      rintro e w11 ⟨rfl, hb11⟩
      have T11 := T10.below hb11
      have X11 := X10.below hb11
      have G11 := G10'.below hb11
      have N11 := N10.below hb11
      clear T10 X10 G10' N10 hb11 G10
      have x0 := X11.c0; have x1 := X11.c1
      go_wp2_with fail
      refine (markMeter_any g' 1 z xs _ G11 hl (by omega)).mono ?_
      rintro r w12 ⟨rfl, hg12⟩
      have T12 := T11.markX (Wi.of_grown hg12 (fun k hk => by injection hk with hk; omega))
      have N12 := MB.grown N11 hg12 (by omega)
      clear T11 X11 G11 N11 hg12 x0 x1
      obtain ⟨y, hy⟩ : ∃ y, 1 + xs.length = y := ⟨_, rfl⟩
      rw [hy]
      have hy1 : 1 ≤ y ∧ y + ms.length + tot ms ms.length ≤ 2097152 := by omega
      clear hy
      go_wp2_with fail
      refine (markMeterS_any g9 y _ w6.heap.size G9f ms _ N12 hy1.2 htot HTP.out.1 HTP.out.2).mono ?_
      rintro r w13 ⟨rfl, hw13⟩
      have T13 := T12.markX (Wi.mono hw13 (by first | omega | (simp; omega)) (Nat.le_refl _))
      clear T12 N12 hw13
      obtain ⟨y2, hy2⟩ : ∃ y2, y + ms.length + tot ms ms.length = y2 := ⟨_, rfl⟩
      rw [hy2]
      have hy3 : 1 ≤ y2 := by omega
      clear hy2
      go_wp2_with fail
      refine (eqOwnB_any T13.o2 (O1.below T13.bl)).mono ?_
      rintro r w14 ⟨rfl, hb14⟩
      have T14 := T13.below hb14
      clear T13 hb14
      go_wp2_with fail
      refine (markOwnI_wi 1 T14.o2 T14.r2 (by omega) (by omega)).mono ?_
      rintro r w15 ⟨rfl, M15, hw15⟩
      have T15 := T14.markV hw15 M15
      clear T14 M15 hw15
      obtain ⟨t, ht⟩ : ∃ t, 1 + us.length = t := ⟨_, rfl⟩
      rw [ht]
      have HT := Lib.hid ht
      have ht1 : 1 ≤ t := by omega
      clear ht
      go_wp2_with fail
      refine (heldOwnI_any 1 us.length T15.o2 (by omega) (by omega)).mono ?_
      rintro r w' ⟨rfl, rfl⟩
      rw [HT.out]
      have A15 := A4.below T15.bl
      have a0 := A15.c0; have a1 := A15.c1
      go_wp2_with fail
      refine (toMeter_any _ _ z xs _ (HX.below (below_then HW4 T15.bl)) hl).mono ?_
      rintro e w16 ⟨g16, rfl, G16, hg16, hb16⟩
      have T16 := T15.below hb16
      clear T15 A15 a0 a1 hb16
      go_wp2_with fail
      refine (toMeterS_any _ _ ms _ (HS.below (below_then HW4 T16.bl)) hln HLL.out).mono ?_
      rintro e w17 ⟨g17, G17f, rfl, G17, hb17⟩
      have T17 := T16.below hb17
      have G17' := G16.below hb17
      clear T16 hb17 G16
      go_wp2_with fail
      refine (balI_any _ _ _ _ z xs ms _ (G17'.rdI hm) (G17.rdM hln HLL.out)).mono ?_
      rintro e w18 ⟨v3, rfl, O3, hb18⟩
      rw [HR.out.1]
      rw [HR.out.2] at O3
      have T18 := T17.below hb18
      clear T17 hb18 G17 G17'
      go_wp2_with fail
      refine (eqOwnB_any O3 (O1.below T18.bl)).mono ?_
      rintro r w19 ⟨rfl, hb19⟩
      have T19 := T18.below hb19
      clear T18 hb19
      go_wp2_with fail
      refine (heldOwnI_any 1 us.length T19.o2 (by omega) (by omega)).mono ?_
      rintro r w' ⟨rfl, rfl⟩
      rw [HT.out]
      have hbl := below_then HW4 T19.bl
      go_wp2_with fail
      go_ret
      exact ⟨rfl, hbl⟩
end Go.Proofs.Ytiikjnokoihhgaa
