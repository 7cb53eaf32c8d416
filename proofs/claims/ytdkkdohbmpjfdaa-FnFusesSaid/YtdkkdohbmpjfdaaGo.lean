/-
  GradeOf of the program and of the reference.
-/
import Derived.Test.YtdkkdohbmpjfdaaGr
namespace Go.Proofs.Ytdkkdohbmpjfdaa
open Go.RowKit Go.Fl Go.Lb

set_option maxHeartbeats 400000 in
theorem l00In_any (n low high : Int) (w : World) :
    Calls Try.prog 68 #[.int .i64 n, .int .i64 low, .int .i64 high] w fun e w' => e = .returned (.bool (inB n low high)) ∧ w = w' := by
  by_cases h1 : low ≤ n <;> by_cases h2 : n ≤ high
  all_goals
    go_enter Try.func68, Try.ntmps68
    go_wp2
    go_ret
    exact ⟨ret_bool (by simp [inB, h1, h2]), rfl⟩

/-- GradeOf, up to which NaN it is -/
def gradeOf (xs ts xs' ts' : List Nat) (fr to : Nat) (n : Int) : Nat × Bool :=
  if validL xs ts && validL xs' ts' && inB n 1 100 then grd (gF xs ts xs' ts' fr to n.toNat) (n.toNat + 1) else (0, false)
theorem gradeOf_no {xs ts xs' ts' : List Nat} {fr to : Nat} {n : Int} (h : (validL xs ts && validL xs' ts' && inB n 1 100) = false) : TimeOk (gradeOf xs ts xs' ts' fr to n) (.returned (.tuple #[.float .f32 0, .bool false])) := by
  unfold gradeOf
  rw [h]
  exact ⟨0, cn_zero, rfl⟩
theorem inB_iff {n : Int} (h : inB n 1 100 = true) : ∃ m : Nat, n = m ∧ 1 ≤ m ∧ m ≤ 100 := by
  unfold inB at h
  simp at h
  exact ⟨n.toNat, by omega, by omega, by omega⟩
theorem gradeOf_yes {xs ts xs' ts' : List Nat} {fr to m : Nat} (h : (validL xs ts && validL xs' ts' && inB m 1 100) = true) : gradeOf xs ts xs' ts' fr to m = grd (gF xs ts xs' ts' fr to m) (m + 1) := by
  unfold gradeOf
  rw [h]; rfl
section
variable (A B A' B' : Option Addr) (c d c' d' : Nat) (xs ts xs' ts' : List Nat) (fr to : Nat) (z : Int) (w : World) (HX : RdF w A xs) (HT : RdF w B ts) (HX' : RdF w A' xs') (HT' : RdF w B' ts')
include HX HT HX' HT'
set_option maxHeartbeats 2000000 in
theorem gradeOfS_any :
    Calls Try.prog 47 #[.agg #[.slice A xs.length c, .slice B ts.length d], .agg #[.slice A' xs'.length c', .slice B' ts'.length d'], .float .f32 fr, .float .f32 to, .int .i64 z] w fun e w' => TimeOk (gradeOf xs ts xs' ts' fr to z) e ∧ Below w.heap.size w w' := by
  cases hv : validL xs ts with
  | false =>
    have HN := Lib.hid (gradeOf_no (xs := xs) (ts := ts) (fr := fr) (to := to) (n := z) (xs' := xs') (ts' := ts') (by rw [hv]; rfl))
    go_enter Try.func47, Try.ntmps47
    go_wp2_with fail
    refine (l07Is_any _ 0 A B c d xs ts _ (by go_simp) (by go_simp) (HX.below (by repeat' (first | (with_reducible exact Below.refl _ _) | (with_reducible assumption) | (with_reducible refine below_drewN ?_ _) | (with_reducible refine Below.drew ?_) | (with_reducible refine below_alloc ?_ _) | (with_reducible refine Below.setCell ?_ ?_ _) | (with_reducible refine below_then ?_ (by assumption)) | omega | (simp; done) | (simp; omega)))) (HT.below (by repeat' (first | (with_reducible exact Below.refl _ _) | (with_reducible assumption) | (with_reducible refine below_drewN ?_ _) | (with_reducible refine Below.drew ?_) | (with_reducible refine below_alloc ?_ _) | (with_reducible refine Below.setCell ?_ ?_ _) | (with_reducible refine below_then ?_ (by assumption)) | omega | (simp; done) | (simp; omega))))).mono ?_
    rintro e w' ⟨rfl, n, rfl⟩
    rw [hv]
    go_wp2_with fail
    exact bodyPost_ret (v := .tuple #[.float .f32 0, .bool false]) (by simp only [results, Try.results47]; go_simp) rfl ⟨HN.out, (by repeat' (first | (with_reducible exact Below.refl _ _) | (with_reducible assumption) | (with_reducible refine below_drewN ?_ _) | (with_reducible refine Below.drew ?_) | (with_reducible refine below_alloc ?_ _) | (with_reducible refine Below.setCell ?_ ?_ _) | (with_reducible refine below_then ?_ (by assumption)) | omega | (simp; done) | (simp; omega)))⟩
  | true =>
    cases hv' : validL xs' ts' with
    | false =>
      have HN := Lib.hid (gradeOf_no (xs := xs) (ts := ts) (fr := fr) (to := to) (n := z) (xs' := xs') (ts' := ts') (by rw [hv, hv']; rfl))
      go_enter Try.func47, Try.ntmps47
      go_wp2_with fail
      refine (l07Is_any _ 0 A B c d xs ts _ (by go_simp) (by go_simp) (HX.below (by repeat' (first | (with_reducible exact Below.refl _ _) | (with_reducible assumption) | (with_reducible refine below_drewN ?_ _) | (with_reducible refine Below.drew ?_) | (with_reducible refine below_alloc ?_ _) | (with_reducible refine Below.setCell ?_ ?_ _) | (with_reducible refine below_then ?_ (by assumption)) | omega | (simp; done) | (simp; omega)))) (HT.below (by repeat' (first | (with_reducible exact Below.refl _ _) | (with_reducible assumption) | (with_reducible refine below_drewN ?_ _) | (with_reducible refine Below.drew ?_) | (with_reducible refine below_alloc ?_ _) | (with_reducible refine Below.setCell ?_ ?_ _) | (with_reducible refine below_then ?_ (by assumption)) | omega | (simp; done) | (simp; omega))))).mono ?_
      rintro e w' ⟨rfl, n, rfl⟩
      rw [hv]
      go_wp2_with fail
      refine (l07Is_any _ 0 A' B' c' d' xs' ts' _ (by go_simp) (by go_simp) (HX'.below (by repeat' (first | (with_reducible exact Below.refl _ _) | (with_reducible assumption) | (with_reducible refine below_drewN ?_ _) | (with_reducible refine Below.drew ?_) | (with_reducible refine below_alloc ?_ _) | (with_reducible refine Below.setCell ?_ ?_ _) | (with_reducible refine below_then ?_ (by assumption)) | omega | (simp; done) | (simp; omega)))) (HT'.below (by repeat' (first | (with_reducible exact Below.refl _ _) | (with_reducible assumption) | (with_reducible refine below_drewN ?_ _) | (with_reducible refine Below.drew ?_) | (with_reducible refine below_alloc ?_ _) | (with_reducible refine Below.setCell ?_ ?_ _) | (with_reducible refine below_then ?_ (by assumption)) | omega | (simp; done) | (simp; omega))))).mono ?_
      rintro e w' ⟨rfl, n, rfl⟩
      rw [hv']
      go_wp2_with fail
      exact bodyPost_ret (v := .tuple #[.float .f32 0, .bool false]) (by simp only [results, Try.results47]; go_simp) rfl ⟨HN.out, (by repeat' (first | (with_reducible exact Below.refl _ _) | (with_reducible assumption) | (with_reducible refine below_drewN ?_ _) | (with_reducible refine Below.drew ?_) | (with_reducible refine below_alloc ?_ _) | (with_reducible refine Below.setCell ?_ ?_ _) | (with_reducible refine below_then ?_ (by assumption)) | omega | (simp; done) | (simp; omega)))⟩
    | true =>
      cases hi : inB z 1 100 with
      | false =>
        have HN := Lib.hid (gradeOf_no (xs := xs) (ts := ts) (fr := fr) (to := to) (n := z) (xs' := xs') (ts' := ts') (by rw [hv, hv', hi]; rfl))
        go_enter Try.func47, Try.ntmps47
        go_wp2_with fail
        refine (l07Is_any _ 0 A B c d xs ts _ (by go_simp) (by go_simp) (HX.below (by repeat' (first | (with_reducible exact Below.refl _ _) | (with_reducible assumption) | (with_reducible refine below_drewN ?_ _) | (with_reducible refine Below.drew ?_) | (with_reducible refine below_alloc ?_ _) | (with_reducible refine Below.setCell ?_ ?_ _) | (with_reducible refine below_then ?_ (by assumption)) | omega | (simp; done) | (simp; omega)))) (HT.below (by repeat' (first | (with_reducible exact Below.refl _ _) | (with_reducible assumption) | (with_reducible refine below_drewN ?_ _) | (with_reducible refine Below.drew ?_) | (with_reducible refine below_alloc ?_ _) | (with_reducible refine Below.setCell ?_ ?_ _) | (with_reducible refine below_then ?_ (by assumption)) | omega | (simp; done) | (simp; omega))))).mono ?_
        rintro e w' ⟨rfl, n, rfl⟩
        rw [hv]
        go_wp2_with fail
        refine (l07Is_any _ 0 A' B' c' d' xs' ts' _ (by go_simp) (by go_simp) (HX'.below (by repeat' (first | (with_reducible exact Below.refl _ _) | (with_reducible assumption) | (with_reducible refine below_drewN ?_ _) | (with_reducible refine Below.drew ?_) | (with_reducible refine below_alloc ?_ _) | (with_reducible refine Below.setCell ?_ ?_ _) | (with_reducible refine below_then ?_ (by assumption)) | omega | (simp; done) | (simp; omega)))) (HT'.below (by repeat' (first | (with_reducible exact Below.refl _ _) | (with_reducible assumption) | (with_reducible refine below_drewN ?_ _) | (with_reducible refine Below.drew ?_) | (with_reducible refine below_alloc ?_ _) | (with_reducible refine Below.setCell ?_ ?_ _) | (with_reducible refine below_then ?_ (by assumption)) | omega | (simp; done) | (simp; omega))))).mono ?_
        rintro e w' ⟨rfl, n, rfl⟩
        rw [hv']
        go_wp2_with fail
        refine (l00In_any _ _ _ _).mono ?_
        rintro e w' ⟨rfl, rfl⟩
        rw [hi]
        go_wp2_with fail
        exact bodyPost_ret (v := .tuple #[.float .f32 0, .bool false]) (by simp only [results, Try.results47]; go_simp) rfl ⟨HN.out, (by repeat' (first | (with_reducible exact Below.refl _ _) | (with_reducible assumption) | (with_reducible refine below_drewN ?_ _) | (with_reducible refine Below.drew ?_) | (with_reducible refine below_alloc ?_ _) | (with_reducible refine Below.setCell ?_ ?_ _) | (with_reducible refine below_then ?_ (by assumption)) | omega | (simp; done) | (simp; omega)))⟩
      | true =>
        obtain ⟨m, rfl, hm1, hm⟩ := inB_iff hi
        have HE := Lib.hid (gradeOf_yes (xs := xs) (ts := ts) (fr := fr) (to := to) (xs' := xs') (ts' := ts') (show (validL xs ts && validL xs' ts' && inB m 1 100) = true by rw [hv, hv', hi]; rfl))
        have HO := Lib.hid (And.intro (validL_spec hv) (validL_spec hv'))
        obtain ⟨F, hF⟩ : ∃ F, gF xs ts xs' ts' fr to m = F := ⟨_, rfl⟩
        obtain ⟨⟨G1, G2⟩, hG⟩ : ∃ G, grd F (m + 1) = G := ⟨_, rfl⟩
        have HF := Lib.hid hF
        have HG := Lib.hid hG
        have HLow := Lib.hid (grd_low F (m + 1))
        have HM := Lib.hid (And.intro hm1 hm)
        clear hF hG hm1 hm
        cases G2
        all_goals
          go_enter Try.func47, Try.ntmps47
          go_wp2_with fail
          refine (l07Is_any _ 0 A B c d xs ts _ (by go_simp) (by go_simp) (HX.below (by repeat' (first | (with_reducible exact Below.refl _ _) | (with_reducible assumption) | (with_reducible refine below_drewN ?_ _) | (with_reducible refine Below.drew ?_) | (with_reducible refine below_alloc ?_ _) | (with_reducible refine Below.setCell ?_ ?_ _) | (with_reducible refine below_then ?_ (by assumption)) | omega | (simp; done) | (simp; omega)))) (HT.below (by repeat' (first | (with_reducible exact Below.refl _ _) | (with_reducible assumption) | (with_reducible refine below_drewN ?_ _) | (with_reducible refine Below.drew ?_) | (with_reducible refine below_alloc ?_ _) | (with_reducible refine Below.setCell ?_ ?_ _) | (with_reducible refine below_then ?_ (by assumption)) | omega | (simp; done) | (simp; omega))))).mono ?_
          rintro e w' ⟨rfl, n, rfl⟩
          rw [hv]
          go_wp2_with fail
          refine (l07Is_any _ 0 A' B' c' d' xs' ts' _ (by go_simp) (by go_simp) (HX'.below (by repeat' (first | (with_reducible exact Below.refl _ _) | (with_reducible assumption) | (with_reducible refine below_drewN ?_ _) | (with_reducible refine Below.drew ?_) | (with_reducible refine below_alloc ?_ _) | (with_reducible refine Below.setCell ?_ ?_ _) | (with_reducible refine below_then ?_ (by assumption)) | omega | (simp; done) | (simp; omega)))) (HT'.below (by repeat' (first | (with_reducible exact Below.refl _ _) | (with_reducible assumption) | (with_reducible refine below_drewN ?_ _) | (with_reducible refine Below.drew ?_) | (with_reducible refine below_alloc ?_ _) | (with_reducible refine Below.setCell ?_ ?_ _) | (with_reducible refine below_then ?_ (by assumption)) | omega | (simp; done) | (simp; omega))))).mono ?_
          rintro e w' ⟨rfl, n, rfl⟩
          rw [hv']
          go_wp2_with fail
          refine (l00In_any _ _ _ _).mono ?_
          rintro e w' ⟨rfl, rfl⟩
          rw [hi]
          go_wp2_with fail
          refine (l07Grade_any _ 0 _ 0 A B A' B' c d c' d' xs ts xs' ts' fr to m _ (by go_simp) (by go_simp) (HX.below (by repeat' (first | (with_reducible exact Below.refl _ _) | (with_reducible assumption) | (with_reducible refine below_drewN ?_ _) | (with_reducible refine Below.drew ?_) | (with_reducible refine below_alloc ?_ _) | (with_reducible refine Below.setCell ?_ ?_ _) | (with_reducible refine below_then ?_ (by assumption)) | omega | (simp; done) | (simp; omega)))) (HT.below (by repeat' (first | (with_reducible exact Below.refl _ _) | (with_reducible assumption) | (with_reducible refine below_drewN ?_ _) | (with_reducible refine Below.drew ?_) | (with_reducible refine below_alloc ?_ _) | (with_reducible refine Below.setCell ?_ ?_ _) | (with_reducible refine below_then ?_ (by assumption)) | omega | (simp; done) | (simp; omega)))) (by go_simp) (by go_simp) (HX'.below (by repeat' (first | (with_reducible exact Below.refl _ _) | (with_reducible assumption) | (with_reducible refine below_drewN ?_ _) | (with_reducible refine Below.drew ?_) | (with_reducible refine below_alloc ?_ _) | (with_reducible refine Below.setCell ?_ ?_ _) | (with_reducible refine below_then ?_ (by assumption)) | omega | (simp; done) | (simp; omega)))) (HT'.below (by repeat' (first | (with_reducible exact Below.refl _ _) | (with_reducible assumption) | (with_reducible refine below_drewN ?_ _) | (with_reducible refine Below.drew ?_) | (with_reducible refine below_alloc ?_ _) | (with_reducible refine Below.setCell ?_ ?_ _) | (with_reducible refine below_then ?_ (by assumption)) | omega | (simp; done) | (simp; omega))))
            (Nat.lt_of_lt_of_le (by decide) HO.out.1.1) HO.out.1.2.2.1 (Nat.lt_of_lt_of_le (by decide) HO.out.2.1) HO.out.2.2.2.1 HM.out.1 HM.out.2 F (fun k => by rw [HF.out])).mono ?_
          rintro e w' ⟨he, n, rfl⟩
          rw [HG.out] at he
          obtain ⟨r, hr, rfl⟩ := he
          have Hr := Lib.hid hr
          clear hr
          dsimp only
          go_wp2_with fail
          first
            | exact bodyPost_ret (v := .tuple #[.float .f32 r, .bool true]) (by simp only [results, Try.results47]; go_simp) rfl ⟨(by rw [HE.out, HF.out, HG.out]; exact ⟨r, Hr.out, rfl⟩), (by repeat' (first | (with_reducible exact Below.refl _ _) | (with_reducible assumption) | (with_reducible refine below_drewN ?_ _) | (with_reducible refine Below.drew ?_) | (with_reducible refine below_alloc ?_ _) | (with_reducible refine Below.setCell ?_ ?_ _) | (with_reducible refine below_then ?_ (by assumption)) | omega | (simp; done) | (simp; omega)))⟩
            | exact bodyPost_ret (v := .tuple #[.float .f32 0, .bool false]) (by simp only [results, Try.results47]; go_simp) rfl ⟨(by rw [HE.out, HF.out, HG.out]; exact ⟨0, (by have := HLow.out; rw [HG.out] at this; exact cn_zero.trans (this rfl).symm), rfl⟩), (by repeat' (first | (with_reducible exact Below.refl _ _) | (with_reducible assumption) | (with_reducible refine below_drewN ?_ _) | (with_reducible refine Below.drew ?_) | (with_reducible refine below_alloc ?_ _) | (with_reducible refine Below.setCell ?_ ?_ _) | (with_reducible refine below_then ?_ (by assumption)) | omega | (simp; done) | (simp; omega)))⟩
set_option maxHeartbeats 2000000 in
theorem gradeOfI_any :
    Calls Try.prog 48 #[.agg #[.slice A xs.length c, .slice B ts.length d], .agg #[.slice A' xs'.length c', .slice B' ts'.length d'], .float .f32 fr, .float .f32 to, .int .i64 z] w fun e w' => TimeOk (gradeOf xs ts xs' ts' fr to z) e ∧ Below w.heap.size w w' := by
  cases hv : validL xs ts with
  | false =>
    have HN := Lib.hid (gradeOf_no (xs := xs) (ts := ts) (fr := fr) (to := to) (n := z) (xs' := xs') (ts' := ts') (by rw [hv]; rfl))
    go_enter Try.func48, Try.ntmps48
    go_wp2_with fail
    (refine (validCurveI_any _ _ _ _ xs ts _ (HX.below (by repeat' (first | (with_reducible exact Below.refl _ _) | (with_reducible assumption) | (with_reducible refine below_drewN ?_ _) | (with_reducible refine Below.drew ?_) | (with_reducible refine below_alloc ?_ _) | (with_reducible refine Below.setCell ?_ ?_ _) | (with_reducible refine below_then ?_ (by assumption)) | omega | (simp; done) | (simp; omega)))) (HT.below (by repeat' (first | (with_reducible exact Below.refl _ _) | (with_reducible assumption) | (with_reducible refine below_drewN ?_ _) | (with_reducible refine Below.drew ?_) | (with_reducible refine below_alloc ?_ _) | (with_reducible refine Below.setCell ?_ ?_ _) | (with_reducible refine below_then ?_ (by assumption)) | omega | (simp; done) | (simp; omega))))).mono ?_; rintro e w1 ⟨rfl, hb1⟩; rw [hv]; have hz1 := hb1.size; (try simp at hz1); obtain ⟨hc1_0, hf1_0, hx1_0⟩ := bcell0 hb1 w.heap.size (by first | assumption | omega | (simp; done) | (simp; omega)); obtain ⟨hc1_1, hf1_1, hx1_1⟩ := bcell0 hb1 (w.heap.size + 1) (by first | assumption | omega | (simp; done) | (simp; omega)))
    go_wp2_with fail
    exact bodyPost_ret (v := .tuple #[.float .f32 0, .bool false]) (by simp only [results, Try.results48]; go_simp) rfl ⟨HN.out, (by repeat' (first | (with_reducible exact Below.refl _ _) | (with_reducible assumption) | (with_reducible refine below_drewN ?_ _) | (with_reducible refine Below.drew ?_) | (with_reducible refine below_alloc ?_ _) | (with_reducible refine Below.setCell ?_ ?_ _) | (with_reducible refine below_then ?_ (by assumption)) | omega | (simp; done) | (simp; omega)))⟩
  | true =>
    cases hv' : validL xs' ts' with
    | false =>
      have HN := Lib.hid (gradeOf_no (xs := xs) (ts := ts) (fr := fr) (to := to) (n := z) (xs' := xs') (ts' := ts') (by rw [hv, hv']; rfl))
      go_enter Try.func48, Try.ntmps48
      go_wp2_with fail
      (refine (validCurveI_any _ _ _ _ xs ts _ (HX.below (by repeat' (first | (with_reducible exact Below.refl _ _) | (with_reducible assumption) | (with_reducible refine below_drewN ?_ _) | (with_reducible refine Below.drew ?_) | (with_reducible refine below_alloc ?_ _) | (with_reducible refine Below.setCell ?_ ?_ _) | (with_reducible refine below_then ?_ (by assumption)) | omega | (simp; done) | (simp; omega)))) (HT.below (by repeat' (first | (with_reducible exact Below.refl _ _) | (with_reducible assumption) | (with_reducible refine below_drewN ?_ _) | (with_reducible refine Below.drew ?_) | (with_reducible refine below_alloc ?_ _) | (with_reducible refine Below.setCell ?_ ?_ _) | (with_reducible refine below_then ?_ (by assumption)) | omega | (simp; done) | (simp; omega))))).mono ?_; rintro e w1 ⟨rfl, hb1⟩; rw [hv]; have hz1 := hb1.size; (try simp at hz1); obtain ⟨hc1_0, hf1_0, hx1_0⟩ := bcell0 hb1 w.heap.size (by first | assumption | omega | (simp; done) | (simp; omega)); obtain ⟨hc1_1, hf1_1, hx1_1⟩ := bcell0 hb1 (w.heap.size + 1) (by first | assumption | omega | (simp; done) | (simp; omega)))
      go_wp2_with fail
      (refine (validCurveI_any _ _ _ _ xs' ts' _ (HX'.below (by repeat' (first | (with_reducible exact Below.refl _ _) | (with_reducible assumption) | (with_reducible refine below_drewN ?_ _) | (with_reducible refine Below.drew ?_) | (with_reducible refine below_alloc ?_ _) | (with_reducible refine Below.setCell ?_ ?_ _) | (with_reducible refine below_then ?_ (by assumption)) | omega | (simp; done) | (simp; omega)))) (HT'.below (by repeat' (first | (with_reducible exact Below.refl _ _) | (with_reducible assumption) | (with_reducible refine below_drewN ?_ _) | (with_reducible refine Below.drew ?_) | (with_reducible refine below_alloc ?_ _) | (with_reducible refine Below.setCell ?_ ?_ _) | (with_reducible refine below_then ?_ (by assumption)) | omega | (simp; done) | (simp; omega))))).mono ?_; rintro e w2 ⟨rfl, hb2⟩; rw [hv']; have hz2 := hb2.size; (try simp at hz2); obtain ⟨hc2_0, hf2_0, hx2_0⟩ := bcell0 hb2 w.heap.size (by first | assumption | omega | (simp; done) | (simp; omega)); obtain ⟨hc2_1, hf2_1, hx2_1⟩ := bcell0 hb2 (w.heap.size + 1) (by first | assumption | omega | (simp; done) | (simp; omega)))
      go_wp2_with fail
      exact bodyPost_ret (v := .tuple #[.float .f32 0, .bool false]) (by simp only [results, Try.results48]; go_simp) rfl ⟨HN.out, (by repeat' (first | (with_reducible exact Below.refl _ _) | (with_reducible assumption) | (with_reducible refine below_drewN ?_ _) | (with_reducible refine Below.drew ?_) | (with_reducible refine below_alloc ?_ _) | (with_reducible refine Below.setCell ?_ ?_ _) | (with_reducible refine below_then ?_ (by assumption)) | omega | (simp; done) | (simp; omega)))⟩
    | true =>
      cases hi : inB z 1 100 with
      | false =>
        have HN := Lib.hid (gradeOf_no (xs := xs) (ts := ts) (fr := fr) (to := to) (n := z) (xs' := xs') (ts' := ts') (by rw [hv, hv', hi]; rfl))
        go_enter Try.func48, Try.ntmps48
        go_wp2_with fail
        (refine (validCurveI_any _ _ _ _ xs ts _ (HX.below (by repeat' (first | (with_reducible exact Below.refl _ _) | (with_reducible assumption) | (with_reducible refine below_drewN ?_ _) | (with_reducible refine Below.drew ?_) | (with_reducible refine below_alloc ?_ _) | (with_reducible refine Below.setCell ?_ ?_ _) | (with_reducible refine below_then ?_ (by assumption)) | omega | (simp; done) | (simp; omega)))) (HT.below (by repeat' (first | (with_reducible exact Below.refl _ _) | (with_reducible assumption) | (with_reducible refine below_drewN ?_ _) | (with_reducible refine Below.drew ?_) | (with_reducible refine below_alloc ?_ _) | (with_reducible refine Below.setCell ?_ ?_ _) | (with_reducible refine below_then ?_ (by assumption)) | omega | (simp; done) | (simp; omega))))).mono ?_; rintro e w1 ⟨rfl, hb1⟩; rw [hv]; have hz1 := hb1.size; (try simp at hz1); obtain ⟨hc1_0, hf1_0, hx1_0⟩ := bcell0 hb1 w.heap.size (by first | assumption | omega | (simp; done) | (simp; omega)); obtain ⟨hc1_1, hf1_1, hx1_1⟩ := bcell0 hb1 (w.heap.size + 1) (by first | assumption | omega | (simp; done) | (simp; omega)))
        go_wp2_with fail
        (refine (validCurveI_any _ _ _ _ xs' ts' _ (HX'.below (by repeat' (first | (with_reducible exact Below.refl _ _) | (with_reducible assumption) | (with_reducible refine below_drewN ?_ _) | (with_reducible refine Below.drew ?_) | (with_reducible refine below_alloc ?_ _) | (with_reducible refine Below.setCell ?_ ?_ _) | (with_reducible refine below_then ?_ (by assumption)) | omega | (simp; done) | (simp; omega)))) (HT'.below (by repeat' (first | (with_reducible exact Below.refl _ _) | (with_reducible assumption) | (with_reducible refine below_drewN ?_ _) | (with_reducible refine Below.drew ?_) | (with_reducible refine below_alloc ?_ _) | (with_reducible refine Below.setCell ?_ ?_ _) | (with_reducible refine below_then ?_ (by assumption)) | omega | (simp; done) | (simp; omega))))).mono ?_; rintro e w2 ⟨rfl, hb2⟩; rw [hv']; have hz2 := hb2.size; (try simp at hz2); obtain ⟨hc2_0, hf2_0, hx2_0⟩ := bcell0 hb2 w.heap.size (by first | assumption | omega | (simp; done) | (simp; omega)); obtain ⟨hc2_1, hf2_1, hx2_1⟩ := bcell0 hb2 (w.heap.size + 1) (by first | assumption | omega | (simp; done) | (simp; omega)))
        go_wp2_with fail
        refine (in_any _ _ _ _).mono ?_
        rintro e w' ⟨rfl, rfl⟩
        rw [hi]
        go_wp2_with fail
        exact bodyPost_ret (v := .tuple #[.float .f32 0, .bool false]) (by simp only [results, Try.results48]; go_simp) rfl ⟨HN.out, (by repeat' (first | (with_reducible exact Below.refl _ _) | (with_reducible assumption) | (with_reducible refine below_drewN ?_ _) | (with_reducible refine Below.drew ?_) | (with_reducible refine below_alloc ?_ _) | (with_reducible refine Below.setCell ?_ ?_ _) | (with_reducible refine below_then ?_ (by assumption)) | omega | (simp; done) | (simp; omega)))⟩
      | true =>
        obtain ⟨m, rfl, hm1, hm⟩ := inB_iff hi
        have HE := Lib.hid (gradeOf_yes (xs := xs) (ts := ts) (fr := fr) (to := to) (xs' := xs') (ts' := ts') (show (validL xs ts && validL xs' ts' && inB m 1 100) = true by rw [hv, hv', hi]; rfl))
        have HO := Lib.hid (And.intro (validL_spec hv) (validL_spec hv'))
        obtain ⟨F, hF⟩ : ∃ F, gF xs ts xs' ts' fr to m = F := ⟨_, rfl⟩
        obtain ⟨⟨G1, G2⟩, hG⟩ : ∃ G, grd F (m + 1) = G := ⟨_, rfl⟩
        have HF := Lib.hid hF
        have HG := Lib.hid hG
        have HM := Lib.hid (And.intro hm1 hm)
        clear hF hG hm1 hm
        go_enter Try.func48, Try.ntmps48
        go_wp2_with fail
        (refine (validCurveI_any _ _ _ _ xs ts _ (HX.below (by repeat' (first | (with_reducible exact Below.refl _ _) | (with_reducible assumption) | (with_reducible refine below_drewN ?_ _) | (with_reducible refine Below.drew ?_) | (with_reducible refine below_alloc ?_ _) | (with_reducible refine Below.setCell ?_ ?_ _) | (with_reducible refine below_then ?_ (by assumption)) | omega | (simp; done) | (simp; omega)))) (HT.below (by repeat' (first | (with_reducible exact Below.refl _ _) | (with_reducible assumption) | (with_reducible refine below_drewN ?_ _) | (with_reducible refine Below.drew ?_) | (with_reducible refine below_alloc ?_ _) | (with_reducible refine Below.setCell ?_ ?_ _) | (with_reducible refine below_then ?_ (by assumption)) | omega | (simp; done) | (simp; omega))))).mono ?_; rintro e w1 ⟨rfl, hb1⟩; rw [hv]; have hz1 := hb1.size; (try simp at hz1); obtain ⟨hc1_0, hf1_0, hx1_0⟩ := bcell0 hb1 w.heap.size (by first | assumption | omega | (simp; done) | (simp; omega)); obtain ⟨hc1_1, hf1_1, hx1_1⟩ := bcell0 hb1 (w.heap.size + 1) (by first | assumption | omega | (simp; done) | (simp; omega)))
        go_wp2_with fail
        (refine (validCurveI_any _ _ _ _ xs' ts' _ (HX'.below (by repeat' (first | (with_reducible exact Below.refl _ _) | (with_reducible assumption) | (with_reducible refine below_drewN ?_ _) | (with_reducible refine Below.drew ?_) | (with_reducible refine below_alloc ?_ _) | (with_reducible refine Below.setCell ?_ ?_ _) | (with_reducible refine below_then ?_ (by assumption)) | omega | (simp; done) | (simp; omega)))) (HT'.below (by repeat' (first | (with_reducible exact Below.refl _ _) | (with_reducible assumption) | (with_reducible refine below_drewN ?_ _) | (with_reducible refine Below.drew ?_) | (with_reducible refine below_alloc ?_ _) | (with_reducible refine Below.setCell ?_ ?_ _) | (with_reducible refine below_then ?_ (by assumption)) | omega | (simp; done) | (simp; omega))))).mono ?_; rintro e w2 ⟨rfl, hb2⟩; rw [hv']; have hz2 := hb2.size; (try simp at hz2); obtain ⟨hc2_0, hf2_0, hx2_0⟩ := bcell0 hb2 w.heap.size (by first | assumption | omega | (simp; done) | (simp; omega)); obtain ⟨hc2_1, hf2_1, hx2_1⟩ := bcell0 hb2 (w.heap.size + 1) (by first | assumption | omega | (simp; done) | (simp; omega)))
        go_wp2_with fail
        refine (in_any _ _ _ _).mono ?_
        rintro e w' ⟨rfl, rfl⟩
        rw [hi]
        go_wp2_with fail
        refine (gradeI_any _ 0 _ 0 A B A' B' c d c' d' xs ts xs' ts' fr to m _ (by go_simp) (by go_simp) (HX.below (by repeat' (first | (with_reducible exact Below.refl _ _) | (with_reducible assumption) | (with_reducible refine below_drewN ?_ _) | (with_reducible refine Below.drew ?_) | (with_reducible refine below_alloc ?_ _) | (with_reducible refine Below.setCell ?_ ?_ _) | (with_reducible refine below_then ?_ (by assumption)) | omega | (simp; done) | (simp; omega)))) (HT.below (by repeat' (first | (with_reducible exact Below.refl _ _) | (with_reducible assumption) | (with_reducible refine below_drewN ?_ _) | (with_reducible refine Below.drew ?_) | (with_reducible refine below_alloc ?_ _) | (with_reducible refine Below.setCell ?_ ?_ _) | (with_reducible refine below_then ?_ (by assumption)) | omega | (simp; done) | (simp; omega)))) (by go_simp) (by go_simp) (HX'.below (by repeat' (first | (with_reducible exact Below.refl _ _) | (with_reducible assumption) | (with_reducible refine below_drewN ?_ _) | (with_reducible refine Below.drew ?_) | (with_reducible refine below_alloc ?_ _) | (with_reducible refine Below.setCell ?_ ?_ _) | (with_reducible refine below_then ?_ (by assumption)) | omega | (simp; done) | (simp; omega)))) (HT'.below (by repeat' (first | (with_reducible exact Below.refl _ _) | (with_reducible assumption) | (with_reducible refine below_drewN ?_ _) | (with_reducible refine Below.drew ?_) | (with_reducible refine below_alloc ?_ _) | (with_reducible refine Below.setCell ?_ ?_ _) | (with_reducible refine below_then ?_ (by assumption)) | omega | (simp; done) | (simp; omega))))
          (Nat.lt_of_lt_of_le (by decide) HO.out.1.1) HO.out.1.2.2.1 (Nat.lt_of_lt_of_le (by decide) HO.out.2.1) HO.out.2.2.2.1 HM.out.1 HM.out.2 F (fun k => by rw [HF.out]) HO.out.1.2.2.2 HO.out.2.2.2.2).mono ?_
        rintro e w' ⟨he, n, rfl⟩
        rw [HG.out] at he
        obtain ⟨r, hr, rfl⟩ := he
        have Hr := Lib.hid hr
        clear hr
        dsimp only
        go_wp2_with fail
        exact bodyPost_ret (v := .tuple #[.float .f32 r, .bool G2]) (by simp only [results, Try.results48]; go_simp) rfl ⟨(by rw [HE.out, HF.out, HG.out]; exact ⟨r, Hr.out, rfl⟩), (by repeat' (first | (with_reducible exact Below.refl _ _) | (with_reducible assumption) | (with_reducible refine below_drewN ?_ _) | (with_reducible refine Below.drew ?_) | (with_reducible refine below_alloc ?_ _) | (with_reducible refine Below.setCell ?_ ?_ _) | (with_reducible refine below_then ?_ (by assumption)) | omega | (simp; done) | (simp; omega)))⟩
end
end Go.Proofs.Ytdkkdohbmpjfdaa
