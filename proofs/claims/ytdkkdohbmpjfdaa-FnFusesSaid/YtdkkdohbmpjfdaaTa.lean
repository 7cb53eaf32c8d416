/-
  TimeAt of the program and of the reference, and the law FnExactTimeAt, walked.
-/
import Derived.Test.YtdkkdohbmpjfdaaTi
namespace Go.Proofs.Ytdkkdohbmpjfdaa
open Go.RowKit Go.Fl Go.Lb

def timeAt (xs ts : List Nat) (cur : Nat) : Nat × Bool := if validL xs ts then timeR xs ts cur else (0, false)
theorem timeAt_no {xs ts : List Nat} {cur : Nat} (h : validL xs ts = false) : TimeOk (timeAt xs ts cur) (.returned (.tuple #[.float .f32 0, .bool false])) := by
  unfold timeAt
  rw [h]
  exact ⟨0, cn_zero, rfl⟩
theorem timeAt_yes {xs ts : List Nat} {cur : Nat} (h : validL xs ts = true) : timeAt xs ts cur = timeR xs ts cur := by
  unfold timeAt
  rw [h]; rfl
theorem timeOk_ret {R : Nat × Bool} {r : Nat} (hr : cn .f32 r = R.1) : TimeOk R (.returned (.tuple #[.float .f32 r, .bool R.2])) := ⟨r, hr, rfl⟩

set_option maxHeartbeats 1000000 in
theorem timeAtS_any (A B : Option Addr) (c d : Nat) (xs ts : List Nat) (cur : Nat) (w : World) (HX : RdF w A xs) (HT : RdF w B ts) :
    Calls Try.prog 38 #[.agg #[.slice A xs.length c, .slice B ts.length d], .float .f32 cur] w fun e w' => TimeOk (timeAt xs ts cur) e ∧ Below w.heap.size w w' := by
  cases hv : validL xs ts with
  | false =>
    have HN := Lib.hid (timeAt_no (cur := cur) hv)
    go_enter Try.func38, Try.ntmps38
    go_wp2_with fail
    refine (l07Is_any _ 0 A B c d xs ts _ (by go_simp) (by go_simp) (HX.below (by repeat' (first | (with_reducible exact Below.refl _ _) | (with_reducible assumption) | (with_reducible refine below_drewN ?_ _) | (with_reducible refine Below.drew ?_) | (with_reducible refine below_alloc ?_ _) | (with_reducible refine Below.setCell ?_ ?_ _) | (with_reducible refine below_then ?_ (by assumption)) | omega | (simp; done) | (simp; omega)))) (HT.below (by repeat' (first | (with_reducible exact Below.refl _ _) | (with_reducible assumption) | (with_reducible refine below_drewN ?_ _) | (with_reducible refine Below.drew ?_) | (with_reducible refine below_alloc ?_ _) | (with_reducible refine Below.setCell ?_ ?_ _) | (with_reducible refine below_then ?_ (by assumption)) | omega | (simp; done) | (simp; omega))))).mono ?_
    rintro e w' ⟨rfl, n, rfl⟩
    rw [hv]
    go_wp2_with fail
    exact bodyPost_ret (v := .tuple #[.float .f32 0, .bool false]) (by simp only [results, Try.results38]; go_simp) rfl ⟨HN.out, (by repeat' (first | (with_reducible exact Below.refl _ _) | (with_reducible assumption) | (with_reducible refine below_drewN ?_ _) | (with_reducible refine Below.drew ?_) | (with_reducible refine below_alloc ?_ _) | (with_reducible refine Below.setCell ?_ ?_ _) | (with_reducible refine below_then ?_ (by assumption)) | omega | (simp; done) | (simp; omega)))⟩
  | true =>
    have HE := Lib.hid (timeAt_yes (cur := cur) hv)
    have HO := Lib.hid (validL_spec hv)
    go_enter Try.func38, Try.ntmps38
    go_wp2_with fail
    refine (l07Is_any _ 0 A B c d xs ts _ (by go_simp) (by go_simp) (HX.below (by repeat' (first | (with_reducible exact Below.refl _ _) | (with_reducible assumption) | (with_reducible refine below_drewN ?_ _) | (with_reducible refine Below.drew ?_) | (with_reducible refine below_alloc ?_ _) | (with_reducible refine Below.setCell ?_ ?_ _) | (with_reducible refine below_then ?_ (by assumption)) | omega | (simp; done) | (simp; omega)))) (HT.below (by repeat' (first | (with_reducible exact Below.refl _ _) | (with_reducible assumption) | (with_reducible refine below_drewN ?_ _) | (with_reducible refine Below.drew ?_) | (with_reducible refine below_alloc ?_ _) | (with_reducible refine Below.setCell ?_ ?_ _) | (with_reducible refine below_then ?_ (by assumption)) | omega | (simp; done) | (simp; omega))))).mono ?_
    rintro e w' ⟨rfl, n, rfl⟩
    rw [hv]
    go_wp2_with fail
    refine (l07Time_any _ 0 A B c d xs ts cur _ (by go_simp) (by go_simp) (HX.below (by repeat' (first | (with_reducible exact Below.refl _ _) | (with_reducible assumption) | (with_reducible refine below_drewN ?_ _) | (with_reducible refine Below.drew ?_) | (with_reducible refine below_alloc ?_ _) | (with_reducible refine Below.setCell ?_ ?_ _) | (with_reducible refine below_then ?_ (by assumption)) | omega | (simp; done) | (simp; omega)))) (HT.below (by repeat' (first | (with_reducible exact Below.refl _ _) | (with_reducible assumption) | (with_reducible refine below_drewN ?_ _) | (with_reducible refine Below.drew ?_) | (with_reducible refine below_alloc ?_ _) | (with_reducible refine Below.setCell ?_ ?_ _) | (with_reducible refine below_then ?_ (by assumption)) | omega | (simp; done) | (simp; omega)))) (Nat.lt_of_lt_of_le (by decide) HO.out.1) (Nat.le_of_eq HO.out.2.2.1.symm)).mono ?_
    rintro e w' ⟨⟨r, hr, rfl⟩, n, rfl⟩
    have Hr := Lib.hid hr
    clear hr
    go_wp2_with fail
    exact bodyPost_ret (v := .tuple #[.float .f32 r, .bool (timeR xs ts cur).2]) (by simp only [results, Try.results38]; go_simp) rfl ⟨(by rw [HE.out]; exact timeOk_ret Hr.out), (by repeat' (first | (with_reducible exact Below.refl _ _) | (with_reducible assumption) | (with_reducible refine below_drewN ?_ _) | (with_reducible refine Below.drew ?_) | (with_reducible refine below_alloc ?_ _) | (with_reducible refine Below.setCell ?_ ?_ _) | (with_reducible refine below_then ?_ (by assumption)) | omega | (simp; done) | (simp; omega)))⟩

set_option maxHeartbeats 1000000 in
theorem timeAtI_any (A B : Option Addr) (c d : Nat) (xs ts : List Nat) (cur : Nat) (w : World) (HX : RdF w A xs) (HT : RdF w B ts) :
    Calls Try.prog 39 #[.agg #[.slice A xs.length c, .slice B ts.length d], .float .f32 cur] w fun e w' => TimeOk (timeAt xs ts cur) e ∧ Below w.heap.size w w' := by
  cases hv : validL xs ts with
  | false =>
    have HN := Lib.hid (timeAt_no (cur := cur) hv)
    go_enter Try.func39, Try.ntmps39
    go_wp2_with fail
    (refine (validCurveI_any _ _ _ _ xs ts _ (HX.below (by repeat' (first | (with_reducible exact Below.refl _ _) | (with_reducible assumption) | (with_reducible refine below_drewN ?_ _) | (with_reducible refine Below.drew ?_) | (with_reducible refine below_alloc ?_ _) | (with_reducible refine Below.setCell ?_ ?_ _) | (with_reducible refine below_then ?_ (by assumption)) | omega | (simp; done) | (simp; omega)))) (HT.below (by repeat' (first | (with_reducible exact Below.refl _ _) | (with_reducible assumption) | (with_reducible refine below_drewN ?_ _) | (with_reducible refine Below.drew ?_) | (with_reducible refine below_alloc ?_ _) | (with_reducible refine Below.setCell ?_ ?_ _) | (with_reducible refine below_then ?_ (by assumption)) | omega | (simp; done) | (simp; omega))))).mono ?_; rintro e w1 ⟨rfl, hb1⟩; rw [hv]; have hz1 := hb1.size; (try simp at hz1); obtain ⟨hc1_0, hf1_0, hx1_0⟩ := bcell0 hb1 w.heap.size (by first | assumption | omega | (simp; done) | (simp; omega)))
    go_wp2_with fail
    exact bodyPost_ret (v := .tuple #[.float .f32 0, .bool false]) (by simp only [results, Try.results39]; go_simp) rfl ⟨HN.out, (by repeat' (first | (with_reducible exact Below.refl _ _) | (with_reducible assumption) | (with_reducible refine below_drewN ?_ _) | (with_reducible refine Below.drew ?_) | (with_reducible refine below_alloc ?_ _) | (with_reducible refine Below.setCell ?_ ?_ _) | (with_reducible refine below_then ?_ (by assumption)) | omega | (simp; done) | (simp; omega)))⟩
  | true =>
    have HE := Lib.hid (timeAt_yes (cur := cur) hv)
    have HO := Lib.hid (validL_spec hv)
    go_enter Try.func39, Try.ntmps39
    go_wp2_with fail
    (refine (validCurveI_any _ _ _ _ xs ts _ (HX.below (by repeat' (first | (with_reducible exact Below.refl _ _) | (with_reducible assumption) | (with_reducible refine below_drewN ?_ _) | (with_reducible refine Below.drew ?_) | (with_reducible refine below_alloc ?_ _) | (with_reducible refine Below.setCell ?_ ?_ _) | (with_reducible refine below_then ?_ (by assumption)) | omega | (simp; done) | (simp; omega)))) (HT.below (by repeat' (first | (with_reducible exact Below.refl _ _) | (with_reducible assumption) | (with_reducible refine below_drewN ?_ _) | (with_reducible refine Below.drew ?_) | (with_reducible refine below_alloc ?_ _) | (with_reducible refine Below.setCell ?_ ?_ _) | (with_reducible refine below_then ?_ (by assumption)) | omega | (simp; done) | (simp; omega))))).mono ?_; rintro e w1 ⟨rfl, hb1⟩; rw [hv]; have hz1 := hb1.size; (try simp at hz1); obtain ⟨hc1_0, hf1_0, hx1_0⟩ := bcell0 hb1 w.heap.size (by first | assumption | omega | (simp; done) | (simp; omega)))
    go_wp2_with fail
    refine (timeI_any _ 0 A B c d xs ts cur _ (by go_simp) (by go_simp) (HX.below (by repeat' (first | (with_reducible exact Below.refl _ _) | (with_reducible assumption) | (with_reducible refine below_drewN ?_ _) | (with_reducible refine Below.drew ?_) | (with_reducible refine below_alloc ?_ _) | (with_reducible refine Below.setCell ?_ ?_ _) | (with_reducible refine below_then ?_ (by assumption)) | omega | (simp; done) | (simp; omega)))) (HT.below (by repeat' (first | (with_reducible exact Below.refl _ _) | (with_reducible assumption) | (with_reducible refine below_drewN ?_ _) | (with_reducible refine Below.drew ?_) | (with_reducible refine below_alloc ?_ _) | (with_reducible refine Below.setCell ?_ ?_ _) | (with_reducible refine below_then ?_ (by assumption)) | omega | (simp; done) | (simp; omega)))) (Nat.lt_of_lt_of_le (by decide) HO.out.1) HO.out.2.2.1 HO.out.2.2.2).mono ?_
    rintro e w' ⟨⟨r, hr, rfl⟩, n, rfl⟩
    have Hr := Lib.hid hr
    clear hr
    go_wp2_with fail
    exact bodyPost_ret (v := .tuple #[.float .f32 r, .bool (timeR xs ts cur).2]) (by simp only [results, Try.results39]; go_simp) rfl ⟨(by rw [HE.out]; exact timeOk_ret Hr.out), (by repeat' (first | (with_reducible exact Below.refl _ _) | (with_reducible assumption) | (with_reducible refine below_drewN ?_ _) | (with_reducible refine Below.drew ?_) | (with_reducible refine below_alloc ?_ _) | (with_reducible refine Below.setCell ?_ ?_ _) | (with_reducible refine below_then ?_ (by assumption)) | omega | (simp; done) | (simp; omega)))⟩

set_option maxHeartbeats 2000000 in
theorem fnExactTimeAt_walk (A B : Option Addr) (c d : Nat) (xs ts : List Nat) (cur : Nat) (w : World) (HX : RdF w A xs) (HT : RdF w B ts) :
    Calls Try.prog 10 #[.agg #[.slice A xs.length c, .slice B ts.length d], .float .f32 cur] w fun e w' => e = .returned (.bool true) ∧ Below w.heap.size w w' := by
  have hm := HX.1
  have hm2 := HT.1
  rcases szC_le (left := 1048576) (n := xs.length) (m := ts.length) (by omega) (by omega) with hz | ⟨hz, hz1, hz2⟩
  · go_enter Try.func10, Try.ntmps10
    go_wp2_with fail
    (refine (szCurve_any _ _ _ _ _ _ _ _ hm hm2 (by omega) (by omega)).mono ?_; rintro e w1 ⟨rfl, hb1⟩; have hz1 := hb1.size; (try simp at hz1))
    go_wp2_with fail
    go_ret
    exact ⟨rfl, (by repeat' (first | (with_reducible exact Below.refl _ _) | (with_reducible assumption) | (with_reducible refine below_drewN ?_ _) | (with_reducible refine Below.drew ?_) | (with_reducible refine below_alloc ?_ _) | (with_reducible refine Below.setCell ?_ ?_ _) | (with_reducible refine below_then ?_ (by assumption)) | omega | (simp; done) | (simp; omega)))⟩
  · have hl : xs.length ≤ 1048576 := by omega
    have hl2 : ts.length ≤ 1048576 := by omega
    have HZ := Lib.hid hz
    obtain ⟨⟨R1, R2⟩, hR⟩ : ∃ R, timeAt xs ts cur = R := ⟨_, rfl⟩
    have HR := Lib.hid hR
    go_enter Try.func10, Try.ntmps10
    clear hz hR
    go_wp2_with fail
    (refine (szCurve_any _ _ _ _ _ _ _ _ hm hm2 (by omega) (by omega)).mono ?_; rintro e w1 ⟨rfl, hb1⟩; rw [HZ.out]; have HX1 := (HX.below (below_alloc (Below.refl _ _) _)).below hb1; have HT1 := (HT.below (below_alloc (Below.refl _ _) _)).below hb1; have hz1 := hb1.size; (try simp at hz1); obtain ⟨hc1_0, hf1_0, hx1_0⟩ := bcell0 hb1 w.heap.size (by first | assumption | omega | (simp; done) | (simp; omega)))
    go_wp2_with fail
    (refine (toCurve_any _ _ _ _ xs ts _ HX1 HT1 hl hl2).mono ?_; rintro e w2 ⟨g, k, rfl, G, K, hgk, hg, hk, hb2⟩; have HX2 := HX1.below hb2; have HT2 := HT1.below hb2; have GX := G.rdF hm; have KT := K.rdF hm2; have hz2 := hb2.size; (try simp at hz2); obtain ⟨hc2_0, hf2_0, hx2_0⟩ := bcell0 hb2 w.heap.size (by first | assumption | omega | (simp; done) | (simp; omega)))
    go_wp2_with fail
    (refine (timeAtS_any _ _ _ _ xs ts cur _ GX KT).mono ?_; rintro e w3 ⟨he, hb3⟩; rw [HR.out] at he; obtain ⟨r, hr, rfl⟩ := he; have Hr := Lib.hid hr; clear hr; have HX3 := HX2.below hb3; have HT3 := HT2.below hb3; have hz3 := hb3.size; (try simp at hz3); obtain ⟨hc3_0, hf3_0, hx3_0⟩ := bcell0 hb3 w.heap.size (by first | assumption | omega | (simp; done) | (simp; omega)))
    go_wp2_with fail
    (refine (toCurve_any _ _ _ _ xs ts _ HX3 HT3 hl hl2).mono ?_; rintro e w4 ⟨g', k', rfl, G', K', hgk', hg', hk', hb4⟩; have HX4 := HX3.below hb4; have HT4 := HT3.below hb4; have GX' := G'.rdF hm; have KT' := K'.rdF hm2; have hz4 := hb4.size; (try simp at hz4); obtain ⟨hc4_0, hf4_0, hx4_0⟩ := bcell0 hb4 w.heap.size (by first | assumption | omega | (simp; done) | (simp; omega)))
    go_wp2_with fail
    (refine (timeAtI_any _ _ _ _ xs ts cur _ (GX'.below (by repeat' (first | (with_reducible exact Below.refl _ _) | (with_reducible assumption) | (with_reducible refine below_drewN ?_ _) | (with_reducible refine Below.drew ?_) | (with_reducible refine below_alloc ?_ _) | (with_reducible refine Below.setCell ?_ ?_ _) | (with_reducible refine below_then ?_ (by assumption)) | omega | (simp; done) | (simp; omega)))) (KT'.below (by repeat' (first | (with_reducible exact Below.refl _ _) | (with_reducible assumption) | (with_reducible refine below_drewN ?_ _) | (with_reducible refine Below.drew ?_) | (with_reducible refine below_alloc ?_ _) | (with_reducible refine Below.setCell ?_ ?_ _) | (with_reducible refine below_then ?_ (by assumption)) | omega | (simp; done) | (simp; omega))))).mono ?_; rintro e w5 ⟨he, hb5⟩; rw [HR.out] at he; obtain ⟨q, hq, rfl⟩ := he; have Hq := Lib.hid hq; clear hq; have HX5 : RdF w5 A xs := (HX4.below (below_alloc (Below.refl _ _) _)).below hb5; have HT5 : RdF w5 B ts := (HT4.below (below_alloc (Below.refl _ _) _)).below hb5; have GX5 : RdF w5 _ xs := (GX'.below (below_alloc (Below.refl _ _) _)).below hb5; have KT5 : RdF w5 _ ts := (KT'.below (below_alloc (Below.refl _ _) _)).below hb5; have hz5 := hb5.size; (try simp at hz5); obtain ⟨hc5_0, hf5_0, hx5_0⟩ := bcell0 hb5 w.heap.size (by first | assumption | omega | (simp; done) | (simp; omega)); obtain ⟨hc5_1, hf5_1, hx5_1⟩ := bcell0 hb5 w4.heap.size (by first | assumption | omega | (simp; done) | (simp; omega)))
    go_wp2_with (refine wpList_wide rfl _ _ _ rfl Try.underlying22 Try.underlying62 _ rfl ?_; intro r n hr)
    refine (sameFloat_wide _ _ _ _ _ (Hq.out.trans Hr.out.symm) (by assumption) (by assumption)).mono ?_
    rintro e w' ⟨rfl, n, rfl⟩
    go_wp2_with fail
    go_region_with (first
      | (go_at_call 33; (refine (toCurve_any _ _ _ _ xs ts _ (HX5.below (by repeat' (first | (with_reducible exact Below.refl _ _) | (with_reducible assumption) | (with_reducible refine below_drewN ?_ _) | (with_reducible refine Below.drew ?_) | (with_reducible refine below_alloc ?_ _) | (with_reducible refine Below.setCell ?_ ?_ _) | (with_reducible refine below_then ?_ (by assumption)) | omega | (simp; done) | (simp; omega)))) (HT5.below (by repeat' (first | (with_reducible exact Below.refl _ _) | (with_reducible assumption) | (with_reducible refine below_drewN ?_ _) | (with_reducible refine Below.drew ?_) | (with_reducible refine below_alloc ?_ _) | (with_reducible refine Below.setCell ?_ ?_ _) | (with_reducible refine below_then ?_ (by assumption)) | omega | (simp; done) | (simp; omega)))) hl hl2).mono ?_; rintro e w6 ⟨g6, k6, rfl, G6, K6, hgk6, hg6, hk6, hb6⟩; have GX6 := G6.rdF hm; have KT6 := K6.rdF hm2; have GX5' : RdF w6 _ xs := GX5.below (by repeat' (first | (with_reducible exact Below.refl _ _) | (with_reducible assumption) | (with_reducible refine below_drewN ?_ _) | (with_reducible refine Below.drew ?_) | (with_reducible refine below_alloc ?_ _) | (with_reducible refine Below.setCell ?_ ?_ _) | (with_reducible refine below_then ?_ (by assumption)) | exact below_then (Below.drew (Below.refl _ _)) (by assumption) | omega | (simp; done) | (simp; omega))); have KT5' : RdF w6 _ ts := KT5.below (by repeat' (first | (with_reducible exact Below.refl _ _) | (with_reducible assumption) | (with_reducible refine below_drewN ?_ _) | (with_reducible refine Below.drew ?_) | (with_reducible refine below_alloc ?_ _) | (with_reducible refine Below.setCell ?_ ?_ _) | (with_reducible refine below_then ?_ (by assumption)) | exact below_then (Below.drew (Below.refl _ _)) (by assumption) | omega | (simp; done) | (simp; omega))); have hz6 := hb6.size; (try simp at hz6); obtain ⟨hc6_0, hf6_0, hx6_0⟩ := bcell0 hb6 w.heap.size (by first | assumption | omega | (simp; done) | (simp; omega)); obtain ⟨hc6_1, hf6_1, hx6_1⟩ := bcell0 hb6 w4.heap.size (by first | assumption | omega | (simp; done) | (simp; omega))))
      | (go_at_call 35; (refine (eqCurve_any _ _ _ _ _ _ _ _ xs ts xs ts _ (GX5'.below (by repeat' (first | (with_reducible exact Below.refl _ _) | (with_reducible assumption) | (with_reducible refine below_drewN ?_ _) | (with_reducible refine Below.drew ?_) | (with_reducible refine below_alloc ?_ _) | (with_reducible refine Below.setCell ?_ ?_ _) | (with_reducible refine below_then ?_ (by assumption)) | exact below_then (Below.drew (Below.refl _ _)) (by assumption) | omega | (simp; done) | (simp; omega)))) (KT5'.below (by repeat' (first | (with_reducible exact Below.refl _ _) | (with_reducible assumption) | (with_reducible refine below_drewN ?_ _) | (with_reducible refine Below.drew ?_) | (with_reducible refine below_alloc ?_ _) | (with_reducible refine Below.setCell ?_ ?_ _) | (with_reducible refine below_then ?_ (by assumption)) | exact below_then (Below.drew (Below.refl _ _)) (by assumption) | omega | (simp; done) | (simp; omega)))) (GX6.below (by repeat' (first | (with_reducible exact Below.refl _ _) | (with_reducible assumption) | (with_reducible refine below_drewN ?_ _) | (with_reducible refine Below.drew ?_) | (with_reducible refine below_alloc ?_ _) | (with_reducible refine Below.setCell ?_ ?_ _) | (with_reducible refine below_then ?_ (by assumption)) | exact below_then (Below.drew (Below.refl _ _)) (by assumption) | omega | (simp; done) | (simp; omega)))) (KT6.below (by repeat' (first | (with_reducible exact Below.refl _ _) | (with_reducible assumption) | (with_reducible refine below_drewN ?_ _) | (with_reducible refine Below.drew ?_) | (with_reducible refine below_alloc ?_ _) | (with_reducible refine Below.setCell ?_ ?_ _) | (with_reducible refine below_then ?_ (by assumption)) | exact below_then (Below.drew (Below.refl _ _)) (by assumption) | omega | (simp; done) | (simp; omega)))) (SameL.refl _) (SameL.refl _)).mono ?_; rintro e w7 ⟨rfl, hb7⟩; have hz7 := hb7.size; (try simp at hz7))))
    all_goals
      go_wp2_with fail
      go_ret
      exact ⟨rfl, (by repeat' (first | (with_reducible exact Below.refl _ _) | (with_reducible assumption) | (with_reducible refine below_drewN ?_ _) | (with_reducible refine Below.drew ?_) | (with_reducible refine below_alloc ?_ _) | (with_reducible refine Below.setCell ?_ ?_ _) | (with_reducible refine below_then ?_ (by assumption)) | omega | (simp; done) | (simp; omega)))⟩
end Go.Proofs.Ytdkkdohbmpjfdaa
