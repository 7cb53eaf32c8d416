/-
  MarginAt of the program and of the reference.
-/
import Derived.Test.YtdkkdohbmpjfdaaTa
namespace Go.Proofs.Ytdkkdohbmpjfdaa
open Go.RowKit Go.Fl Go.Lb

/-- the margin between two times -/
def marginR (R S : Nat × Bool) : Nat × Bool := if R.2 && S.2 then (fb .sub .f32 S.1 R.1, true) else (0, false)
def MarginS (R S : Nat × Bool) (e : Ending) : Prop := ∃ r, cn .f32 r = fb .sub .f32 S.1 R.1 ∧ e = .returned (.tuple #[.float .f32 r, .bool (R.2 && S.2)])
theorem sub_of {a b a' b' : Nat} (w : World) (ha : cn .f32 a = a') (hb : cn .f32 b = b') : cn .f32 (fv w .sub .f32 b a) = fb .sub .f32 b' a' := by
  rw [cn_fv, ← ha, ← hb, fb_cn_left, fb_cn_right]
section
variable (p o p' o' : Nat) (A B A' B' : Option Addr) (c d c' d' : Nat) (xs ts xs' ts' : List Nat) (cur : Nat) (w : World) (h0 : w.cell? ⟨p, o, none⟩ = some (.slice A xs.length c)) (h1 : w.cell? ⟨p, o + 1, none⟩ = some (.slice B ts.length d)) (HX : RdF w A xs) (HT : RdF w B ts)
  (h0' : w.cell? ⟨p', o', none⟩ = some (.slice A' xs'.length c')) (h1' : w.cell? ⟨p', o' + 1, none⟩ = some (.slice B' ts'.length d')) (HX' : RdF w A' xs') (HT' : RdF w B' ts')
  (hl : 0 < xs.length) (hle : ts.length = xs.length) (hl' : 0 < xs'.length) (hle' : ts'.length = xs'.length) (R S : Nat × Bool) (hR : timeR xs ts cur = R) (hS : timeR xs' ts' cur = S)
include h0 h1 HX HT h0' h1' HX' HT' hl hle hl' hle' hR hS
set_option maxHeartbeats 1000000 in
theorem l07Margin_any :
    Calls Try.prog 65 #[.pointer (some ⟨p, o, none⟩), .pointer (some ⟨p', o', none⟩), .float .f32 cur] w fun e w' => MarginS R S e ∧ ∃ n, w' = w.drewN n := by
  obtain ⟨R1, ok1⟩ := R
  obtain ⟨S1, ok2⟩ := S
  have HR := Lib.hid hR
  have HS := Lib.hid hS
  have HL := Lib.hid (And.intro hl (And.intro hle (And.intro hl' hle')))
  clear hR hS hl hle hl' hle'
  cases ok1 <;> cases ok2
  all_goals
    go_enter Try.func65, Try.ntmps65
    go_wp2_with fail
    refine (l07Time_any p o A B c d xs ts cur _ h0 h1 HX HT HL.out.1 (Nat.le_of_eq HL.out.2.1.symm)).mono ?_
    rintro e w' ⟨he, n, rfl⟩
    rw [HR.out] at he
    obtain ⟨r, hr, rfl⟩ := he
    have Hr := Lib.hid hr
    clear hr
    go_wp2_with fail
    refine (l07Time_any p' o' A' B' c' d' xs' ts' cur (w.drewN n) h0' h1' (HX'.below (by repeat' (first | (with_reducible exact Below.refl _ _) | (with_reducible assumption) | (with_reducible refine below_drewN ?_ _) | (with_reducible refine Below.drew ?_) | (with_reducible refine below_alloc ?_ _) | (with_reducible refine Below.setCell ?_ ?_ _) | (with_reducible refine below_then ?_ (by assumption)) | omega | (simp; done) | (simp; omega)))) (HT'.below (by repeat' (first | (with_reducible exact Below.refl _ _) | (with_reducible assumption) | (with_reducible refine below_drewN ?_ _) | (with_reducible refine Below.drew ?_) | (with_reducible refine below_alloc ?_ _) | (with_reducible refine Below.setCell ?_ ?_ _) | (with_reducible refine below_then ?_ (by assumption)) | omega | (simp; done) | (simp; omega)))) HL.out.2.2.1 (Nat.le_of_eq HL.out.2.2.2.symm)).mono ?_
    rintro e w' ⟨he, n, rfl⟩
    rw [HS.out] at he
    obtain ⟨q, hq, rfl⟩ := he
    have Hq := Lib.hid hq
    clear hq
    go_wp2_with fail
    generalize hs : fv _ .sub .f32 q r = s
    have Hs : cn .f32 s = fb .sub .f32 S1 R1 := by rw [← hs]; exact sub_of _ Hr.out Hq.out
    first
      | exact bodyPost_ret (v := .tuple #[.float .f32 s, .bool true]) (by simp only [results, Try.results65]; go_simp) rfl ⟨⟨s, Hs, rfl⟩, _, rfl⟩
      | exact bodyPost_ret (v := .tuple #[.float .f32 s, .bool false]) (by simp only [results, Try.results65]; go_simp) rfl ⟨⟨s, Hs, rfl⟩, _, rfl⟩
set_option maxHeartbeats 1000000 in
theorem marginI_any (hv : ∀ j, j < xs.length → okAt xs ts j = true) (hv' : ∀ j, j < xs'.length → okAt xs' ts' j = true) :
    Calls Try.prog 66 #[.pointer (some ⟨p, o, none⟩), .pointer (some ⟨p', o', none⟩), .float .f32 cur] w fun e w' => TimeOk (marginR R S) e ∧ ∃ n, w' = w.drewN n := by
  obtain ⟨R1, ok1⟩ := R
  obtain ⟨S1, ok2⟩ := S
  have HR := Lib.hid hR
  have HS := Lib.hid hS
  have HL := Lib.hid (And.intro hl (And.intro hle (And.intro hl' hle')))
  have HV := Lib.hid hv
  have HV' := Lib.hid hv'
  clear hR hS hl hle hl' hle' hv hv'
  cases ok1 <;> cases ok2
  all_goals
    go_enter Try.func66, Try.ntmps66
    go_wp2_with fail
    refine (timeI_any p o A B c d xs ts cur _ h0 h1 HX HT HL.out.1 HL.out.2.1 HV.out).mono ?_
    rintro e w' ⟨he, n, rfl⟩
    rw [HR.out] at he
    obtain ⟨r, hr, rfl⟩ := he
    have Hr := Lib.hid hr
    clear hr
    go_wp2_with fail
    refine (timeI_any p' o' A' B' c' d' xs' ts' cur (w.drewN n) h0' h1' (HX'.below (by repeat' (first | (with_reducible exact Below.refl _ _) | (with_reducible assumption) | (with_reducible refine below_drewN ?_ _) | (with_reducible refine Below.drew ?_) | (with_reducible refine below_alloc ?_ _) | (with_reducible refine Below.setCell ?_ ?_ _) | (with_reducible refine below_then ?_ (by assumption)) | omega | (simp; done) | (simp; omega)))) (HT'.below (by repeat' (first | (with_reducible exact Below.refl _ _) | (with_reducible assumption) | (with_reducible refine below_drewN ?_ _) | (with_reducible refine Below.drew ?_) | (with_reducible refine below_alloc ?_ _) | (with_reducible refine Below.setCell ?_ ?_ _) | (with_reducible refine below_then ?_ (by assumption)) | omega | (simp; done) | (simp; omega)))) HL.out.2.2.1 HL.out.2.2.2 HV'.out).mono ?_
    rintro e w' ⟨he, n, rfl⟩
    rw [HS.out] at he
    obtain ⟨q, hq, rfl⟩ := he
    have Hq := Lib.hid hq
    clear hq
    go_wp2_with fail
    first
      | (generalize hs : fv _ .sub .f32 q r = s
         have Hs : cn .f32 s = fb .sub .f32 S1 R1 := by rw [← hs]; exact sub_of _ Hr.out Hq.out
         exact bodyPost_ret (v := .tuple #[.float .f32 s, .bool true]) (by simp only [results, Try.results66]; go_simp) rfl ⟨⟨s, Hs, rfl⟩, _, rfl⟩)
      | exact bodyPost_ret (v := .tuple #[.float .f32 0, .bool false]) (by simp only [results, Try.results66]; go_simp) rfl ⟨⟨0, cn_zero, rfl⟩, _, rfl⟩
end

/-- MarginAt, up to which NaN it is -/
def marginAt (xs ts xs' ts' : List Nat) (cur : Nat) : Nat × Bool :=
  if validL xs ts && validL xs' ts' then marginR (timeR xs ts cur) (timeR xs' ts' cur) else (0, false)
theorem marginAt_no {xs ts xs' ts' : List Nat} {cur : Nat} (h : (validL xs ts && validL xs' ts') = false) : TimeOk (marginAt xs ts xs' ts' cur) (.returned (.tuple #[.float .f32 0, .bool false])) := by
  unfold marginAt
  rw [h]
  exact ⟨0, cn_zero, rfl⟩
theorem marginAt_yes {xs ts xs' ts' : List Nat} {cur : Nat} (h : validL xs ts = true) (h' : validL xs' ts' = true) : marginAt xs ts xs' ts' cur = marginR (timeR xs ts cur) (timeR xs' ts' cur) := by
  unfold marginAt
  rw [h, h']; rfl

set_option maxHeartbeats 2000000 in
theorem marginAtS_any (A B A' B' : Option Addr) (c d c' d' : Nat) (xs ts xs' ts' : List Nat) (cur : Nat) (w : World) (HX : RdF w A xs) (HT : RdF w B ts) (HX' : RdF w A' xs') (HT' : RdF w B' ts') :
    Calls Try.prog 41 #[.agg #[.slice A xs.length c, .slice B ts.length d], .agg #[.slice A' xs'.length c', .slice B' ts'.length d'], .float .f32 cur] w fun e w' => TimeOk (marginAt xs ts xs' ts' cur) e ∧ Below w.heap.size w w' := by
  cases hv : validL xs ts with
  | false =>
    have HN := Lib.hid (marginAt_no (cur := cur) (xs' := xs') (ts' := ts') (by rw [hv]; rfl))
    go_enter Try.func41, Try.ntmps41
    go_wp2_with fail
    refine (l07Is_any _ 0 A B c d xs ts _ (by go_simp) (by go_simp) (HX.below (by repeat' (first | (with_reducible exact Below.refl _ _) | (with_reducible assumption) | (with_reducible refine below_drewN ?_ _) | (with_reducible refine Below.drew ?_) | (with_reducible refine below_alloc ?_ _) | (with_reducible refine Below.setCell ?_ ?_ _) | (with_reducible refine below_then ?_ (by assumption)) | omega | (simp; done) | (simp; omega)))) (HT.below (by repeat' (first | (with_reducible exact Below.refl _ _) | (with_reducible assumption) | (with_reducible refine below_drewN ?_ _) | (with_reducible refine Below.drew ?_) | (with_reducible refine below_alloc ?_ _) | (with_reducible refine Below.setCell ?_ ?_ _) | (with_reducible refine below_then ?_ (by assumption)) | omega | (simp; done) | (simp; omega))))).mono ?_
    rintro e w' ⟨rfl, n, rfl⟩
    rw [hv]
    go_wp2_with fail
    exact bodyPost_ret (v := .tuple #[.float .f32 0, .bool false]) (by simp only [results, Try.results41]; go_simp) rfl ⟨HN.out, (by repeat' (first | (with_reducible exact Below.refl _ _) | (with_reducible assumption) | (with_reducible refine below_drewN ?_ _) | (with_reducible refine Below.drew ?_) | (with_reducible refine below_alloc ?_ _) | (with_reducible refine Below.setCell ?_ ?_ _) | (with_reducible refine below_then ?_ (by assumption)) | omega | (simp; done) | (simp; omega)))⟩
  | true =>
    cases hv' : validL xs' ts' with
    | false =>
      have HN := Lib.hid (marginAt_no (cur := cur) (xs := xs) (ts := ts) (xs' := xs') (ts' := ts') (by rw [hv, hv']; rfl))
      go_enter Try.func41, Try.ntmps41
      go_wp2_with fail
      refine (l07Is_any _ 0 A B c d xs ts _ (by go_simp) (by go_simp) (HX.below (by repeat' (first | (with_reducible exact Below.refl _ _) | (with_reducible assumption) | (with_reducible refine below_drewN ?_ _) | (with_reducible refine Below.drew ?_) | (with_reducible refine below_alloc ?_ _) | (with_reducible refine Below.setCell ?_ ?_ _) | (with_reducible refine below_then ?_ (by assumption)) | omega | (simp; done) | (simp; omega)))) (HT.below (by repeat' (first | (with_reducible exact Below.refl _ _) | (with_reducible assumption) | (with_reducible refine below_drewN ?_ _) | (with_reducible refine Below.drew ?_) | (with_reducible refine below_alloc ?_ _) | (with_reducible refine Below.setCell ?_ ?_ _) | (with_reducible refine below_then ?_ (by assumption)) | omega | (simp; done) | (simp; omega))))).mono ?_
      rintro e w' ⟨rfl, n, rfl⟩
      rw [hv]
      go_wp2_with fail
      refine (l07Is_any _ 0 A' B' c' d' xs' ts' _ (by go_simp) (by go_simp) (HX'.below (by repeat' (first | (with_reducible exact Below.refl _ _) | (with_reducible assumption) | (with_reducible refine below_drewN ?_ _) | (with_reducible refine Below.drew ?_) | (with_reducible refine below_alloc ?_ _) | (with_reducible refine Below.setCell ?_ ?_ _) | (with_reducible refine below_then ?_ (by assumption)) | omega | (simp; done) | (simp; omega)))) (HT'.below (by repeat' (first | (with_reducible exact Below.refl _ _) | (with_reducible assumption) | (with_reducible refine below_drewN ?_ _) | (with_reducible refine Below.drew ?_) | (with_reducible refine below_alloc ?_ _) | (with_reducible refine Below.setCell ?_ ?_ _) | (with_reducible refine below_then ?_ (by assumption)) | omega | (simp; done) | (simp; omega))))).mono ?_
      rintro e w' ⟨rfl, n, rfl⟩
      rw [hv']
      go_wp2_with fail
      exact bodyPost_ret (v := .tuple #[.float .f32 0, .bool false]) (by simp only [results, Try.results41]; go_simp) rfl ⟨HN.out, (by repeat' (first | (with_reducible exact Below.refl _ _) | (with_reducible assumption) | (with_reducible refine below_drewN ?_ _) | (with_reducible refine Below.drew ?_) | (with_reducible refine below_alloc ?_ _) | (with_reducible refine Below.setCell ?_ ?_ _) | (with_reducible refine below_then ?_ (by assumption)) | omega | (simp; done) | (simp; omega)))⟩
    | true =>
      have HE := Lib.hid (marginAt_yes (cur := cur) hv hv')
      have HO := Lib.hid (And.intro (validL_spec hv) (validL_spec hv'))
      obtain ⟨⟨R1, ok1⟩, hR⟩ : ∃ R, timeR xs ts cur = R := ⟨_, rfl⟩
      obtain ⟨⟨S1, ok2⟩, hS⟩ : ∃ S, timeR xs' ts' cur = S := ⟨_, rfl⟩
      have HRS := Lib.hid (And.intro hR hS)
      clear hR hS
      cases ok1 <;> cases ok2
      all_goals
        go_enter Try.func41, Try.ntmps41
        go_wp2_with fail
        refine (l07Is_any _ 0 A B c d xs ts _ (by go_simp) (by go_simp) (HX.below (by repeat' (first | (with_reducible exact Below.refl _ _) | (with_reducible assumption) | (with_reducible refine below_drewN ?_ _) | (with_reducible refine Below.drew ?_) | (with_reducible refine below_alloc ?_ _) | (with_reducible refine Below.setCell ?_ ?_ _) | (with_reducible refine below_then ?_ (by assumption)) | omega | (simp; done) | (simp; omega)))) (HT.below (by repeat' (first | (with_reducible exact Below.refl _ _) | (with_reducible assumption) | (with_reducible refine below_drewN ?_ _) | (with_reducible refine Below.drew ?_) | (with_reducible refine below_alloc ?_ _) | (with_reducible refine Below.setCell ?_ ?_ _) | (with_reducible refine below_then ?_ (by assumption)) | omega | (simp; done) | (simp; omega))))).mono ?_
        rintro e w' ⟨rfl, n, rfl⟩
        rw [hv]
        go_wp2_with fail
        refine (l07Is_any _ 0 A' B' c' d' xs' ts' _ (by go_simp) (by go_simp) (HX'.below (by repeat' (first | (with_reducible exact Below.refl _ _) | (with_reducible assumption) | (with_reducible refine below_drewN ?_ _) | (with_reducible refine Below.drew ?_) | (with_reducible refine below_alloc ?_ _) | (with_reducible refine Below.setCell ?_ ?_ _) | (with_reducible refine below_then ?_ (by assumption)) | omega | (simp; done) | (simp; omega)))) (HT'.below (by repeat' (first | (with_reducible exact Below.refl _ _) | (with_reducible assumption) | (with_reducible refine below_drewN ?_ _) | (with_reducible refine Below.drew ?_) | (with_reducible refine below_alloc ?_ _) | (with_reducible refine Below.setCell ?_ ?_ _) | (with_reducible refine below_then ?_ (by assumption)) | omega | (simp; done) | (simp; omega))))).mono ?_
        rintro e w' ⟨rfl, n, rfl⟩
        rw [hv']
        go_wp2_with fail
        refine (l07Margin_any _ 0 _ 0 A B A' B' c d c' d' xs ts xs' ts' cur _ (by go_simp) (by go_simp) (HX.below (by repeat' (first | (with_reducible exact Below.refl _ _) | (with_reducible assumption) | (with_reducible refine below_drewN ?_ _) | (with_reducible refine Below.drew ?_) | (with_reducible refine below_alloc ?_ _) | (with_reducible refine Below.setCell ?_ ?_ _) | (with_reducible refine below_then ?_ (by assumption)) | omega | (simp; done) | (simp; omega)))) (HT.below (by repeat' (first | (with_reducible exact Below.refl _ _) | (with_reducible assumption) | (with_reducible refine below_drewN ?_ _) | (with_reducible refine Below.drew ?_) | (with_reducible refine below_alloc ?_ _) | (with_reducible refine Below.setCell ?_ ?_ _) | (with_reducible refine below_then ?_ (by assumption)) | omega | (simp; done) | (simp; omega)))) (by go_simp) (by go_simp) (HX'.below (by repeat' (first | (with_reducible exact Below.refl _ _) | (with_reducible assumption) | (with_reducible refine below_drewN ?_ _) | (with_reducible refine Below.drew ?_) | (with_reducible refine below_alloc ?_ _) | (with_reducible refine Below.setCell ?_ ?_ _) | (with_reducible refine below_then ?_ (by assumption)) | omega | (simp; done) | (simp; omega)))) (HT'.below (by repeat' (first | (with_reducible exact Below.refl _ _) | (with_reducible assumption) | (with_reducible refine below_drewN ?_ _) | (with_reducible refine Below.drew ?_) | (with_reducible refine below_alloc ?_ _) | (with_reducible refine Below.setCell ?_ ?_ _) | (with_reducible refine below_then ?_ (by assumption)) | omega | (simp; done) | (simp; omega))))
          (Nat.lt_of_lt_of_le (by decide) HO.out.1.1) HO.out.1.2.2.1 (Nat.lt_of_lt_of_le (by decide) HO.out.2.1) HO.out.2.2.2.1 _ _ HRS.out.1 HRS.out.2).mono ?_
        rintro e w' ⟨⟨r, hr, rfl⟩, n, rfl⟩
        have Hr := Lib.hid hr
        clear hr
        go_wp2_with fail
        first
          | exact bodyPost_ret (v := .tuple #[.float .f32 0, .bool false]) (by simp only [results, Try.results41]; go_simp) rfl ⟨(by rw [HE.out, HRS.out.1, HRS.out.2]; exact ⟨0, cn_zero, rfl⟩), (by repeat' (first | (with_reducible exact Below.refl _ _) | (with_reducible assumption) | (with_reducible refine below_drewN ?_ _) | (with_reducible refine Below.drew ?_) | (with_reducible refine below_alloc ?_ _) | (with_reducible refine Below.setCell ?_ ?_ _) | (with_reducible refine below_then ?_ (by assumption)) | omega | (simp; done) | (simp; omega)))⟩
          | exact bodyPost_ret (v := .tuple #[.float .f32 r, .bool true]) (by simp only [results, Try.results41]; go_simp) rfl ⟨(by rw [HE.out, HRS.out.1, HRS.out.2]; exact ⟨r, Hr.out, rfl⟩), (by repeat' (first | (with_reducible exact Below.refl _ _) | (with_reducible assumption) | (with_reducible refine below_drewN ?_ _) | (with_reducible refine Below.drew ?_) | (with_reducible refine below_alloc ?_ _) | (with_reducible refine Below.setCell ?_ ?_ _) | (with_reducible refine below_then ?_ (by assumption)) | omega | (simp; done) | (simp; omega)))⟩

set_option maxHeartbeats 2000000 in
theorem marginAtI_any (A B A' B' : Option Addr) (c d c' d' : Nat) (xs ts xs' ts' : List Nat) (cur : Nat) (w : World) (HX : RdF w A xs) (HT : RdF w B ts) (HX' : RdF w A' xs') (HT' : RdF w B' ts') :
    Calls Try.prog 42 #[.agg #[.slice A xs.length c, .slice B ts.length d], .agg #[.slice A' xs'.length c', .slice B' ts'.length d'], .float .f32 cur] w fun e w' => TimeOk (marginAt xs ts xs' ts' cur) e ∧ Below w.heap.size w w' := by
  cases hv : validL xs ts with
  | false =>
    have HN := Lib.hid (marginAt_no (cur := cur) (xs' := xs') (ts' := ts') (by rw [hv]; rfl))
    go_enter Try.func42, Try.ntmps42
    go_wp2_with fail
    (refine (validCurveI_any _ _ _ _ xs ts _ (HX.below (by repeat' (first | (with_reducible exact Below.refl _ _) | (with_reducible assumption) | (with_reducible refine below_drewN ?_ _) | (with_reducible refine Below.drew ?_) | (with_reducible refine below_alloc ?_ _) | (with_reducible refine Below.setCell ?_ ?_ _) | (with_reducible refine below_then ?_ (by assumption)) | omega | (simp; done) | (simp; omega)))) (HT.below (by repeat' (first | (with_reducible exact Below.refl _ _) | (with_reducible assumption) | (with_reducible refine below_drewN ?_ _) | (with_reducible refine Below.drew ?_) | (with_reducible refine below_alloc ?_ _) | (with_reducible refine Below.setCell ?_ ?_ _) | (with_reducible refine below_then ?_ (by assumption)) | omega | (simp; done) | (simp; omega))))).mono ?_; rintro e w1 ⟨rfl, hb1⟩; rw [hv]; have hz1 := hb1.size; (try simp at hz1); obtain ⟨hc1_0, hf1_0, hx1_0⟩ := bcell0 hb1 w.heap.size (by first | assumption | omega | (simp; done) | (simp; omega)); obtain ⟨hc1_1, hf1_1, hx1_1⟩ := bcell0 hb1 (w.heap.size + 1) (by first | assumption | omega | (simp; done) | (simp; omega)))
    go_wp2_with fail
    exact bodyPost_ret (v := .tuple #[.float .f32 0, .bool false]) (by simp only [results, Try.results42]; go_simp) rfl ⟨HN.out, (by repeat' (first | (with_reducible exact Below.refl _ _) | (with_reducible assumption) | (with_reducible refine below_drewN ?_ _) | (with_reducible refine Below.drew ?_) | (with_reducible refine below_alloc ?_ _) | (with_reducible refine Below.setCell ?_ ?_ _) | (with_reducible refine below_then ?_ (by assumption)) | omega | (simp; done) | (simp; omega)))⟩
  | true =>
    cases hv' : validL xs' ts' with
    | false =>
      have HN := Lib.hid (marginAt_no (cur := cur) (xs := xs) (ts := ts) (xs' := xs') (ts' := ts') (by rw [hv, hv']; rfl))
      go_enter Try.func42, Try.ntmps42
      go_wp2_with fail
      (refine (validCurveI_any _ _ _ _ xs ts _ (HX.below (by repeat' (first | (with_reducible exact Below.refl _ _) | (with_reducible assumption) | (with_reducible refine below_drewN ?_ _) | (with_reducible refine Below.drew ?_) | (with_reducible refine below_alloc ?_ _) | (with_reducible refine Below.setCell ?_ ?_ _) | (with_reducible refine below_then ?_ (by assumption)) | omega | (simp; done) | (simp; omega)))) (HT.below (by repeat' (first | (with_reducible exact Below.refl _ _) | (with_reducible assumption) | (with_reducible refine below_drewN ?_ _) | (with_reducible refine Below.drew ?_) | (with_reducible refine below_alloc ?_ _) | (with_reducible refine Below.setCell ?_ ?_ _) | (with_reducible refine below_then ?_ (by assumption)) | omega | (simp; done) | (simp; omega))))).mono ?_; rintro e w1 ⟨rfl, hb1⟩; rw [hv]; have hz1 := hb1.size; (try simp at hz1); obtain ⟨hc1_0, hf1_0, hx1_0⟩ := bcell0 hb1 w.heap.size (by first | assumption | omega | (simp; done) | (simp; omega)); obtain ⟨hc1_1, hf1_1, hx1_1⟩ := bcell0 hb1 (w.heap.size + 1) (by first | assumption | omega | (simp; done) | (simp; omega)))
      go_wp2_with fail
      (refine (validCurveI_any _ _ _ _ xs' ts' _ (HX'.below (by repeat' (first | (with_reducible exact Below.refl _ _) | (with_reducible assumption) | (with_reducible refine below_drewN ?_ _) | (with_reducible refine Below.drew ?_) | (with_reducible refine below_alloc ?_ _) | (with_reducible refine Below.setCell ?_ ?_ _) | (with_reducible refine below_then ?_ (by assumption)) | omega | (simp; done) | (simp; omega)))) (HT'.below (by repeat' (first | (with_reducible exact Below.refl _ _) | (with_reducible assumption) | (with_reducible refine below_drewN ?_ _) | (with_reducible refine Below.drew ?_) | (with_reducible refine below_alloc ?_ _) | (with_reducible refine Below.setCell ?_ ?_ _) | (with_reducible refine below_then ?_ (by assumption)) | omega | (simp; done) | (simp; omega))))).mono ?_; rintro e w2 ⟨rfl, hb2⟩; rw [hv']; have hz2 := hb2.size; (try simp at hz2); obtain ⟨hc2_0, hf2_0, hx2_0⟩ := bcell0 hb2 w.heap.size (by first | assumption | omega | (simp; done) | (simp; omega)); obtain ⟨hc2_1, hf2_1, hx2_1⟩ := bcell0 hb2 (w.heap.size + 1) (by first | assumption | omega | (simp; done) | (simp; omega)))
      go_wp2_with fail
      exact bodyPost_ret (v := .tuple #[.float .f32 0, .bool false]) (by simp only [results, Try.results42]; go_simp) rfl ⟨HN.out, (by repeat' (first | (with_reducible exact Below.refl _ _) | (with_reducible assumption) | (with_reducible refine below_drewN ?_ _) | (with_reducible refine Below.drew ?_) | (with_reducible refine below_alloc ?_ _) | (with_reducible refine Below.setCell ?_ ?_ _) | (with_reducible refine below_then ?_ (by assumption)) | omega | (simp; done) | (simp; omega)))⟩
    | true =>
      have HE := Lib.hid (marginAt_yes (cur := cur) hv hv')
      have HO := Lib.hid (And.intro (validL_spec hv) (validL_spec hv'))
      generalize hM : marginR (timeR xs ts cur) (timeR xs' ts' cur) = M at HE
      obtain ⟨M1, M2⟩ := M
      have HM := Lib.hid hM
      clear hM
      go_enter Try.func42, Try.ntmps42
      go_wp2_with fail
      (refine (validCurveI_any _ _ _ _ xs ts _ (HX.below (by repeat' (first | (with_reducible exact Below.refl _ _) | (with_reducible assumption) | (with_reducible refine below_drewN ?_ _) | (with_reducible refine Below.drew ?_) | (with_reducible refine below_alloc ?_ _) | (with_reducible refine Below.setCell ?_ ?_ _) | (with_reducible refine below_then ?_ (by assumption)) | omega | (simp; done) | (simp; omega)))) (HT.below (by repeat' (first | (with_reducible exact Below.refl _ _) | (with_reducible assumption) | (with_reducible refine below_drewN ?_ _) | (with_reducible refine Below.drew ?_) | (with_reducible refine below_alloc ?_ _) | (with_reducible refine Below.setCell ?_ ?_ _) | (with_reducible refine below_then ?_ (by assumption)) | omega | (simp; done) | (simp; omega))))).mono ?_; rintro e w1 ⟨rfl, hb1⟩; rw [hv]; have hz1 := hb1.size; (try simp at hz1); obtain ⟨hc1_0, hf1_0, hx1_0⟩ := bcell0 hb1 w.heap.size (by first | assumption | omega | (simp; done) | (simp; omega)); obtain ⟨hc1_1, hf1_1, hx1_1⟩ := bcell0 hb1 (w.heap.size + 1) (by first | assumption | omega | (simp; done) | (simp; omega)))
      go_wp2_with fail
      (refine (validCurveI_any _ _ _ _ xs' ts' _ (HX'.below (by repeat' (first | (with_reducible exact Below.refl _ _) | (with_reducible assumption) | (with_reducible refine below_drewN ?_ _) | (with_reducible refine Below.drew ?_) | (with_reducible refine below_alloc ?_ _) | (with_reducible refine Below.setCell ?_ ?_ _) | (with_reducible refine below_then ?_ (by assumption)) | omega | (simp; done) | (simp; omega)))) (HT'.below (by repeat' (first | (with_reducible exact Below.refl _ _) | (with_reducible assumption) | (with_reducible refine below_drewN ?_ _) | (with_reducible refine Below.drew ?_) | (with_reducible refine below_alloc ?_ _) | (with_reducible refine Below.setCell ?_ ?_ _) | (with_reducible refine below_then ?_ (by assumption)) | omega | (simp; done) | (simp; omega))))).mono ?_; rintro e w2 ⟨rfl, hb2⟩; rw [hv']; have hz2 := hb2.size; (try simp at hz2); obtain ⟨hc2_0, hf2_0, hx2_0⟩ := bcell0 hb2 w.heap.size (by first | assumption | omega | (simp; done) | (simp; omega)); obtain ⟨hc2_1, hf2_1, hx2_1⟩ := bcell0 hb2 (w.heap.size + 1) (by first | assumption | omega | (simp; done) | (simp; omega)))
      go_wp2_with fail
      refine (marginI_any _ 0 _ 0 A B A' B' c d c' d' xs ts xs' ts' cur _ (by go_simp) (by go_simp) (HX.below (by repeat' (first | (with_reducible exact Below.refl _ _) | (with_reducible assumption) | (with_reducible refine below_drewN ?_ _) | (with_reducible refine Below.drew ?_) | (with_reducible refine below_alloc ?_ _) | (with_reducible refine Below.setCell ?_ ?_ _) | (with_reducible refine below_then ?_ (by assumption)) | omega | (simp; done) | (simp; omega)))) (HT.below (by repeat' (first | (with_reducible exact Below.refl _ _) | (with_reducible assumption) | (with_reducible refine below_drewN ?_ _) | (with_reducible refine Below.drew ?_) | (with_reducible refine below_alloc ?_ _) | (with_reducible refine Below.setCell ?_ ?_ _) | (with_reducible refine below_then ?_ (by assumption)) | omega | (simp; done) | (simp; omega)))) (by go_simp) (by go_simp) (HX'.below (by repeat' (first | (with_reducible exact Below.refl _ _) | (with_reducible assumption) | (with_reducible refine below_drewN ?_ _) | (with_reducible refine Below.drew ?_) | (with_reducible refine below_alloc ?_ _) | (with_reducible refine Below.setCell ?_ ?_ _) | (with_reducible refine below_then ?_ (by assumption)) | omega | (simp; done) | (simp; omega)))) (HT'.below (by repeat' (first | (with_reducible exact Below.refl _ _) | (with_reducible assumption) | (with_reducible refine below_drewN ?_ _) | (with_reducible refine Below.drew ?_) | (with_reducible refine below_alloc ?_ _) | (with_reducible refine Below.setCell ?_ ?_ _) | (with_reducible refine below_then ?_ (by assumption)) | omega | (simp; done) | (simp; omega))))
        (Nat.lt_of_lt_of_le (by decide) HO.out.1.1) HO.out.1.2.2.1 (Nat.lt_of_lt_of_le (by decide) HO.out.2.1) HO.out.2.2.2.1 _ _ rfl rfl HO.out.1.2.2.2 HO.out.2.2.2.2).mono ?_
      rintro e w' ⟨he, n, rfl⟩
      rw [HM.out] at he
      obtain ⟨r, hr, rfl⟩ := he
      have Hr := Lib.hid hr
      clear hr
      go_wp2_with fail
      exact bodyPost_ret (v := .tuple #[.float .f32 r, .bool M2]) (by simp only [results, Try.results42]; go_simp) rfl ⟨(by rw [HE.out]; exact ⟨r, Hr.out, rfl⟩), (by repeat' (first | (with_reducible exact Below.refl _ _) | (with_reducible assumption) | (with_reducible refine below_drewN ?_ _) | (with_reducible refine Below.drew ?_) | (with_reducible refine below_alloc ?_ _) | (with_reducible refine Below.setCell ?_ ?_ _) | (with_reducible refine below_then ?_ (by assumption)) | omega | (simp; done) | (simp; omega)))⟩
end Go.Proofs.Ytdkkdohbmpjfdaa
