/-
  The law FnExactQuietMeters, walked.
-/
import Derived.Test.YtiikjnokoihhgaaQs
import Derived.Test.YtiikjnokoihhgaaMs
namespace Go.Proofs.Ytiikjnokoihhgaa
open Go.RowKit Go.Fl Go.Lb

theorem MB.tops {w : World} {lo g : Nat} {G : Nat → Nat} {ms : List Mt} (h : MB w lo g G ms) : g < w.heap.size ∧ ∀ j, j < ms.length → G j < w.heap.size := ⟨h.row.lt, fun j hj => (h.blk j hj).1.lt⟩
set_option maxRecDepth 100000 in
set_option maxHeartbeats 4000000 in
theorem fnExactQuietMeters_walk (B : Option Addr) (e0 sh : Nat) (ms : List Mt) (w : World) (HS : RdM w B ms) :
    Calls Try.prog 9 #[.slice B ms.length e0, .float .f32 sh] w fun e w' => e = .returned (.bool true) ∧ Below w.heap.size w w' := by
  have hml := HS.1
  obtain ⟨ok, hok⟩ : ∃ ok, quOk sh ms = ok := ⟨_, rfl⟩
  obtain ⟨us, hus⟩ : ∃ us, quR sh ms = us := ⟨_, rfl⟩
  have hul : us.length ≤ 256 := by rw [← hus]; exact quR_length sh ms
  have HR := Lib.hid (And.intro hok hus)
  clear hok hus
  go_enter Try.func9, Try.ntmps9
  go_wp2_with fail
  refine (szMeterS_any B e0 ms 1048576 _ HS (by omega) (by omega)).mono ?_
  rintro e wS ⟨r0, rfl, hr0, hbS⟩
  rcases hr0 with rfl | ⟨hr1, hr2⟩
  · go_wp2_with fail
    go_ret
    exact ⟨rfl, hbS⟩
  have hln : ms.length ≤ 1048576 := by omega
  have htot : tot ms ms.length ≤ 1048576 := by omega
  have hA9 : 1 + ms.length + tot ms ms.length ≤ 2097152 := by omega
  have hll : ∀ j, j < ms.length → (gm ms j).2.length ≤ 1048576 := fun j hj => Nat.le_trans (len_le_tot hj) htot
  have HLL := Lib.hid hll
  clear hll hr2
  go_wp2_with fail
  refine (toMeterS_any _ _ ms _ (HS.below hbS) hln HLL.out).mono ?_
  rintro e w2 ⟨gl, GL, rfl, ML, hb2⟩
  go_wp2_with fail
  refine (quietS_any _ _ sh ms _ (ML.rdM hln HLL.out)).mono ?_
  rintro e w4 ⟨v1, rfl, O1, hb4⟩
  rw [HR.out.1]
  rw [HR.out.2] at O1
  have HW4 : Below w.heap.size w w4 := below_then (below_then hbS hb2) hb4
  clear hbS hb2 hb4 ML
  go_wp2_with fail
  refine (toMeterS_any _ _ ms _ (HS.below HW4) hln HLL.out).mono ?_
  rintro e w5 ⟨g9, G9f, rfl, G9, B5⟩
  have hg9 := G9.ge
  have HTP := Lib.hid G9.tops
  go_wp2_with fail
  refine (quietI_any _ _ sh ms _ (G9.rdM hln HLL.out)).mono ?_
  rintro e w7 ⟨v2, rfl, O2, hb7⟩
  rw [HR.out.1]
  rw [HR.out.2] at O2
  have T7 : MSt w4 w7 w5.heap.size w7.heap.size v2 us := ⟨below_then B5 hb7, O2, O2.lt, B5.size⟩
  have N7 := G9.below hb7
  clear G9 hb7 B5 O2
  go_wp2_with fail
  refine (eqOwnB_any T7.o2 (O1.below T7.bl)).mono ?_
  rintro r w8 ⟨rfl, hb8⟩
  have T8 := T7.below hb8
  have N8 := N7.below hb8
  clear hb8 T7 N7
  go_wp2_with fail
  refine (toMeterS_any _ _ ms _ (HS.below (below_then HW4 T8.bl)) hln HLL.out).mono ?_
  rintro e w10 ⟨g10, G10f, rfl, G10, hb10⟩
  have T10 := T8.below hb10
  have N10 := N8.below hb10
  clear T8 N8 hb10
  go_wp2_with fail
  refine (eqMeterS_any _ _ _ _ ms _ (N10.rdM hln HLL.out) (G10.rdM hln HLL.out)).mono ?_
  rintro e w11 ⟨rfl, hb11⟩
  have T11 := T10.below hb11
  have N11 := N10.below hb11
  clear T10 N10 hb11 G10
  go_wp2_with fail
  refine (markMeterS_any g9 1 _ w5.heap.size G9f ms _ N11 hA9 htot HTP.out.1 HTP.out.2).mono ?_
  rintro r w13 ⟨rfl, hw13⟩
  have T13 := T11.markX (Wi.mono hw13 (by first | omega | (simp; omega)) (Nat.le_refl _))
  clear T11 N11 hw13
  obtain ⟨y2, hy2⟩ : ∃ y2, 1 + ms.length + tot ms ms.length = y2 := ⟨_, rfl⟩
  rw [hy2]
  have hy3 : 1 ≤ y2 := by omega
  clear hy2
  go_wp2_with fail
  refine (eqOwnB_any T13.o2 (O1.below T13.bl)).mono ?_
  rintro r w14 ⟨rfl, hb14⟩
  have T14 := T13.below hb14
  clear T13 hb14
  go_wp2_with fail
  refine (markOwnI_wi 1 T14.o2 T14.r2 (by omega) (by omega)).mono ?_
  rintro r w15 ⟨rfl, M15, hw15⟩
  have T15 := T14.markV hw15 M15
  clear T14 M15 hw15
  obtain ⟨t, ht⟩ : ∃ t, 1 + us.length = t := ⟨_, rfl⟩
  rw [ht]
  have HT := Lib.hid ht
  have ht1 : 1 ≤ t := by omega
  clear ht
  go_wp2_with fail
  refine (heldOwnI_any 1 us.length T15.o2 (by omega) (by omega)).mono ?_
  rintro r w' ⟨rfl, rfl⟩
  rw [HT.out]
  go_wp2_with fail
  refine (toMeterS_any _ _ ms _ (HS.below (below_then HW4 T15.bl)) hln HLL.out).mono ?_
  rintro e w17 ⟨g17, G17f, rfl, G17, hb17⟩
  have T17 := T15.below hb17
  clear T15 hb17
  go_wp2_with fail
  refine (quietI_any _ _ sh ms _ (G17.rdM hln HLL.out)).mono ?_
  rintro e w18 ⟨v3, rfl, O3, hb18⟩
  rw [HR.out.1]
  rw [HR.out.2] at O3
  have T18 := T17.below hb18
  clear T17 hb18 G17
  go_wp2_with fail
  refine (eqOwnB_any O3 (O1.below T18.bl)).mono ?_
  rintro r w19 ⟨rfl, hb19⟩
  have T19 := T18.below hb19
  clear T18 hb19
  go_wp2_with fail
  refine (heldOwnI_any 1 us.length T19.o2 (by omega) (by omega)).mono ?_
  rintro r w' ⟨rfl, rfl⟩
  rw [HT.out]
  have hbl := below_then HW4 T19.bl
  go_wp2_with fail
  go_ret
  exact ⟨rfl, hbl⟩
end Go.Proofs.Ytiikjnokoihhgaa
