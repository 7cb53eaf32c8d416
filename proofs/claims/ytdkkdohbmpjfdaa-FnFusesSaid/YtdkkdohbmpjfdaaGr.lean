/-
  The least margin between two currents: the walks.
-/
import Derived.Test.YtdkkdohbmpjfdaaMa
import Derived.Laws.Cover2
namespace Go.Proofs.Ytdkkdohbmpjfdaa
open Go.RowKit Go.Fl Go.Lb

theorem timeR_congr {xs ts : List Nat} {a b : Nat} (h : cn .f32 a = cn .f32 b) : timeR xs ts a = timeR xs ts b := by
  have h1 : ∀ y, cf .f32 a y = cf .f32 b y := fun y => cf_congr h rfl
  have h2 : hit xs a = hit xs b := by
    funext i
    unfold hit ltB
    rw [h1]
  unfold timeR interp geB
  rw [h2, h1, h]
def gM (xs ts xs' ts' : List Nat) (cur : Nat) : Nat × Bool := marginR (timeR xs ts cur) (timeR xs' ts' cur)
/-- the current at a step -/
def gcur (fr to m k : Nat) : Nat := fb .add .f32 fr (fb .mul .f32 (fb .sub .f32 to fr) (fb .quo .f32 (floatOfInt .f32 k) (floatOfInt .f32 m)))
theorem gcur_fv (w1 w2 w3 w4 : World) (fr to m k : Nat) :
    cn .f32 (fv w1 .add .f32 fr (fv w2 .mul .f32 (fv w3 .sub .f32 to fr) (fv w4 .quo .f32 (floatOfInt .f32 k) (floatOfInt .f32 m)))) = gcur fr to m k := by
  unfold gcur
  simp only [cn_fv, fb_fv_left, fb_fv_right]
def gF (xs ts xs' ts' : List Nat) (fr to m k : Nat) : Nat × Bool := gM xs ts xs' ts' (gcur fr to m k)
theorem gF_of {xs ts xs' ts' : List Nat} {fr to m k cur : Nat} (h : cn .f32 cur = gcur fr to m k) : gM xs ts xs' ts' cur = gF xs ts xs' ts' fr to m k := by
  have h1 : cn .f32 cur = cn .f32 (gcur fr to m k) := by rw [← h, cn_cn]
  unfold gF gM
  rw [timeR_congr h1, timeR_congr (xs := xs') h1]
def gstep (s M : Nat × Bool) : Nat × Bool := if M.2 && (!s.2 || cf .f32 M.1 s.1 == some .lt) then (M.1, true) else s
def grd (F : Nat → Nat × Bool) : Nat → Nat × Bool
  | 0 => (0, false)
  | k + 1 => gstep (grd F k) (F k)
theorem grd_low (F : Nat → Nat × Bool) : ∀ k, (grd F k).2 = false → (grd F k).1 = 0 := by
  intro k
  induction k with
  | zero => intro _; rfl
  | succ k ih =>
    unfold grd gstep
    split
    · intro h; cases h
    · exact ih
/-- how a call that tells a margin ends, as far as it is used -/
def MOk (M : Nat × Bool) (e : Ending) : Prop := ∃ r, e = .returned (.tuple #[.float .f32 r, .bool M.2]) ∧ (M.2 = true → cn .f32 r = M.1)
theorem MarginS.mok {R S : Nat × Bool} {e : Ending} (h : MarginS R S e) : MOk (marginR R S) e := by
  obtain ⟨r, hr, rfl⟩ := h
  refine ⟨r, ?_, ?_⟩
  · unfold marginR; cases R.2 && S.2 <;> rfl
  · unfold marginR
    cases R.2 && S.2
    · intro h; cases h
    · intro _; exact hr
theorem TimeOk.mok {M : Nat × Bool} {e : Ending} (h : TimeOk M e) : MOk M e := by
  obtain ⟨r, hr, rfl⟩ := h
  exact ⟨r, rfl, fun _ => hr⟩
section
variable {F : Nat → Nat × Bool} {k b M1 q r : Nat} {f : Bool}
theorem grd_no (hg : grd F k = (b, f)) (hM : F k = (M1, false)) : grd F (k + 1) = (b, f) := by
  unfold grd gstep; rw [hg, hM]; rfl
theorem grd_first (hg : grd F k = (b, false)) (hM : F k = (M1, true)) : grd F (k + 1) = (M1, true) := by
  unfold grd gstep; rw [hg, hM]; rfl
theorem grd_lt (hg : grd F k = (b, true)) (hM : F k = (M1, true)) (hq : cn .f32 q = M1) (hr : cn .f32 r = b) (hl : (cf .f32 q r == some .lt) = true) : grd F (k + 1) = (M1, true) := by
  unfold grd gstep; rw [hg, hM, ← hq, ← hr, cf_cn_left, cf_cn_right]; simp [hl]
theorem grd_ge (hg : grd F k = (b, true)) (hM : F k = (M1, true)) (hq : cn .f32 q = M1) (hr : cn .f32 r = b) (hl : (cf .f32 q r == some .lt) = false) : grd F (k + 1) = (b, true) := by
  unfold grd gstep; rw [hg, hM, ← hq, ← hr, cf_cn_left, cf_cn_right]; simp [hl]
end

section
variable (p o p' o' : Nat) (A B A' B' : Option Addr) (c d c' d' : Nat) (xs ts xs' ts' : List Nat) (fr to m : Nat) (w : World) (h0 : w.cell? ⟨p, o, none⟩ = some (.slice A xs.length c)) (h1 : w.cell? ⟨p, o + 1, none⟩ = some (.slice B ts.length d)) (HX : RdF w A xs) (HT : RdF w B ts)
  (h0' : w.cell? ⟨p', o', none⟩ = some (.slice A' xs'.length c')) (h1' : w.cell? ⟨p', o' + 1, none⟩ = some (.slice B' ts'.length d')) (HX' : RdF w A' xs') (HT' : RdF w B' ts')
  (hl : 0 < xs.length) (hle : ts.length = xs.length) (hl' : 0 < xs'.length) (hle' : ts'.length = xs'.length) (hm1 : 1 ≤ m) (hm : m ≤ 100) (F : Nat → Nat × Bool) (hF : ∀ k, gF xs ts xs' ts' fr to m k = F k)
include h0 h1 HX HT h0' h1' HX' HT' hl hle hl' hle' hm1 hm hF
set_option maxHeartbeats 2000000 in
theorem l07Grade_any :
    Calls Try.prog 69 #[.pointer (some ⟨p, o, none⟩), .pointer (some ⟨p', o', none⟩), .float .f32 fr, .float .f32 to, .int .i64 m] w fun e w' => TimeOk (grd F (m + 1)) e ∧ ∃ n, w' = w.drewN n := by
  have HF := Lib.hid hF
  have HL := Lib.hid (And.intro hl (And.intro hle (And.intro hl' hle')))
  clear hF hl hle hl' hle'
  go_enter Try.func69, Try.ntmps69
  go_wp2_with fail
  go_loopw [12, 13, 14] (fun best found i wr => ∃ k n r : Nat, k ≤ m + 1 ∧ best = .float .f32 r ∧ found = .bool (grd F k).2 ∧ i = .int .i64 k ∧ wr = w.drewN n ∧ Hid (cn .f32 r = (grd F k).1)) (fun _ _ i _ => m + 1 - (intOf i).toNat)
  case atStart => exact ⟨0, 0, 0, Nat.zero_le _, rfl, rfl, rfl, rfl, cn_zero⟩
  case round =>
    obtain ⟨k, n, r, hk, rfl, rfl, rfl, rfl, hr⟩ := hrel
    by_cases hlt : k ≤ m
    · have hki : (k : Int) ≤ m := by omega
      obtain ⟨⟨b, f⟩, hg⟩ : ∃ g, grd F k = g := ⟨_, rfl⟩
      obtain ⟨⟨M1, M2⟩, hM⟩ : ∃ M, F k = M := ⟨_, rfl⟩
      rw [hg] at hr ⊢
      have HG := Lib.hid hg
      have HM := Lib.hid hM
      clear hg hM
      dsimp only at hr ⊢
      cases M2 <;> cases f
      all_goals
        go_wp2_with fail
        generalize hc : fv _ .add .f32 _ _ = cur
        have Hc := Lib.hid (show cn .f32 cur = gcur fr to m k by rw [← hc]; exact gcur_fv _ _ _ _ _ _ _ _)
        clear hc
        refine (l07Margin_any p o p' o' A B A' B' c d c' d' xs ts xs' ts' cur _ (by exact h0) (by exact h1) (HX.below (by repeat' (first | (with_reducible exact Below.refl _ _) | (with_reducible assumption) | (with_reducible refine below_drewN ?_ _) | (with_reducible refine Below.drew ?_) | (with_reducible refine below_alloc ?_ _) | (with_reducible refine Below.setCell ?_ ?_ _) | (with_reducible refine below_then ?_ (by assumption)) | omega | (simp; done) | (simp; omega)))) (HT.below (by repeat' (first | (with_reducible exact Below.refl _ _) | (with_reducible assumption) | (with_reducible refine below_drewN ?_ _) | (with_reducible refine Below.drew ?_) | (with_reducible refine below_alloc ?_ _) | (with_reducible refine Below.setCell ?_ ?_ _) | (with_reducible refine below_then ?_ (by assumption)) | omega | (simp; done) | (simp; omega)))) (by exact h0') (by exact h1') (HX'.below (by repeat' (first | (with_reducible exact Below.refl _ _) | (with_reducible assumption) | (with_reducible refine below_drewN ?_ _) | (with_reducible refine Below.drew ?_) | (with_reducible refine below_alloc ?_ _) | (with_reducible refine Below.setCell ?_ ?_ _) | (with_reducible refine below_then ?_ (by assumption)) | omega | (simp; done) | (simp; omega)))) (HT'.below (by repeat' (first | (with_reducible exact Below.refl _ _) | (with_reducible assumption) | (with_reducible refine below_drewN ?_ _) | (with_reducible refine Below.drew ?_) | (with_reducible refine below_alloc ?_ _) | (with_reducible refine Below.setCell ?_ ?_ _) | (with_reducible refine below_then ?_ (by assumption)) | omega | (simp; done) | (simp; omega)))) HL.out.1 HL.out.2.1 HL.out.2.2.1 HL.out.2.2.2 _ _ rfl rfl).mono ?_
        rintro e w' ⟨he, n', rfl⟩
        have he' := he.mok
        rw [show marginR (timeR xs ts cur) (timeR xs' ts' cur) = _ from (gF_of Hc.out).trans ((HF.out k).trans HM.out)] at he'
        obtain ⟨q, rfl, hq⟩ := he'
        have Hq := Lib.hid hq
        clear hq he
        dsimp only
      · go_wp2_with fail
        go_roundw
        case rel => exact ⟨k + 1, _, r, by omega, rfl, by rw [grd_no HG.out HM.out], by go_num, rfl, by rw [grd_no HG.out HM.out]; exact hr⟩
        case measure => simp [intOf]; omega
      · go_wp2_with fail
        go_roundw
        case rel => exact ⟨k + 1, _, r, by omega, rfl, by rw [grd_no HG.out HM.out], by go_num, rfl, by rw [grd_no HG.out HM.out]; exact hr⟩
        case measure => simp [intOf]; omega
      · go_wp2_with fail
        go_roundw
        case rel => exact ⟨k + 1, _, q, by omega, rfl, by rw [grd_first HG.out HM.out], by go_num, rfl, by rw [grd_first HG.out HM.out]; exact Hq.out rfl⟩
        case measure => simp [intOf]; omega
      · cases hc : (cf .f32 q r == some .lt) with
        | true =>
          have HC := Lib.hid (grd_lt HG.out HM.out (Hq.out rfl) hr.out hc)
          go_wp2_with fail
          go_roundw
          case rel => exact ⟨k + 1, _, q, by omega, rfl, by rw [HC.out], by go_num, rfl, by rw [HC.out]; exact Hq.out rfl⟩
          case measure => simp [intOf]; omega
        | false =>
          have HC := Lib.hid (grd_ge HG.out HM.out (Hq.out rfl) hr.out hc)
          go_wp2_with fail
          go_roundw
          case rel => exact ⟨k + 1, _, r, by omega, rfl, by rw [HC.out], by go_num, rfl, by rw [HC.out]; exact hr⟩
          case measure => simp [intOf]; omega
    · obtain rfl : k = m + 1 := by omega
      go_wp2_with fail
      exact bodyPost_ret (v := .tuple #[.float .f32 r, .bool (grd F (m + 1)).2]) (by simp only [results, Try.results69]; go_simp) rfl ⟨⟨r, hr.out, rfl⟩, _, rfl⟩
set_option maxHeartbeats 2000000 in
theorem gradeI_any (hv : ∀ j, j < xs.length → okAt xs ts j = true) (hv' : ∀ j, j < xs'.length → okAt xs' ts' j = true) :
    Calls Try.prog 70 #[.pointer (some ⟨p, o, none⟩), .pointer (some ⟨p', o', none⟩), .float .f32 fr, .float .f32 to, .int .i64 m] w fun e w' => TimeOk (grd F (m + 1)) e ∧ ∃ n, w' = w.drewN n := by
  have HF := Lib.hid hF
  have HL := Lib.hid (And.intro hl (And.intro hle (And.intro hl' hle')))
  have HV := Lib.hid hv
  have HV' := Lib.hid hv'
  clear hF hl hle hl' hle' hv hv'
  go_enter Try.func70, Try.ntmps70
  go_wp2_with fail
  go_loopw [12, 13, 20] (fun best found i wr => ∃ k n r : Nat, k ≤ m + 1 ∧ best = .float .f32 r ∧ found = .bool (grd F k).2 ∧ i = .int .i64 k ∧ wr = w.drewN n ∧ Hid (cn .f32 r = (grd F k).1)) (fun _ _ i _ => m + 1 - (intOf i).toNat)
  case atStart => exact ⟨0, 0, 0, Nat.zero_le _, rfl, rfl, rfl, rfl, cn_zero⟩
  case round =>
    obtain ⟨k, n, r, hk, rfl, rfl, rfl, rfl, hr⟩ := hrel
    by_cases hlt : k ≤ m
    · have hki : (k : Int) ≤ m := by omega
      obtain ⟨⟨b, f⟩, hg⟩ : ∃ g, grd F k = g := ⟨_, rfl⟩
      obtain ⟨⟨M1, M2⟩, hM⟩ : ∃ M, F k = M := ⟨_, rfl⟩
      rw [hg] at hr ⊢
      have HG := Lib.hid hg
      have HM := Lib.hid hM
      clear hg hM
      dsimp only at hr ⊢
      cases M2 <;> cases f
      all_goals
        go_wp2_with fail
        generalize hc : fv _ .add .f32 _ _ = cur
        have Hc := Lib.hid (show cn .f32 cur = gcur fr to m k by rw [← hc]; exact gcur_fv _ _ _ _ _ _ _ _)
        clear hc
        refine (marginI_any p o p' o' A B A' B' c d c' d' xs ts xs' ts' cur _ (by exact h0) (by exact h1) (HX.below (by repeat' (first | (with_reducible exact Below.refl _ _) | (with_reducible assumption) | (with_reducible refine below_drewN ?_ _) | (with_reducible refine Below.drew ?_) | (with_reducible refine below_alloc ?_ _) | (with_reducible refine Below.setCell ?_ ?_ _) | (with_reducible refine below_then ?_ (by assumption)) | omega | (simp; done) | (simp; omega)))) (HT.below (by repeat' (first | (with_reducible exact Below.refl _ _) | (with_reducible assumption) | (with_reducible refine below_drewN ?_ _) | (with_reducible refine Below.drew ?_) | (with_reducible refine below_alloc ?_ _) | (with_reducible refine Below.setCell ?_ ?_ _) | (with_reducible refine below_then ?_ (by assumption)) | omega | (simp; done) | (simp; omega)))) (by exact h0') (by exact h1') (HX'.below (by repeat' (first | (with_reducible exact Below.refl _ _) | (with_reducible assumption) | (with_reducible refine below_drewN ?_ _) | (with_reducible refine Below.drew ?_) | (with_reducible refine below_alloc ?_ _) | (with_reducible refine Below.setCell ?_ ?_ _) | (with_reducible refine below_then ?_ (by assumption)) | omega | (simp; done) | (simp; omega)))) (HT'.below (by repeat' (first | (with_reducible exact Below.refl _ _) | (with_reducible assumption) | (with_reducible refine below_drewN ?_ _) | (with_reducible refine Below.drew ?_) | (with_reducible refine below_alloc ?_ _) | (with_reducible refine Below.setCell ?_ ?_ _) | (with_reducible refine below_then ?_ (by assumption)) | omega | (simp; done) | (simp; omega)))) HL.out.1 HL.out.2.1 HL.out.2.2.1 HL.out.2.2.2 _ _ rfl rfl HV.out HV'.out).mono ?_
        rintro e w' ⟨he, n', rfl⟩
        have he' := he.mok
        rw [show marginR (timeR xs ts cur) (timeR xs' ts' cur) = _ from (gF_of Hc.out).trans ((HF.out k).trans HM.out)] at he'
        obtain ⟨q, rfl, hq⟩ := he'
        have Hq := Lib.hid hq
        clear hq he
        dsimp only
      · go_wp2_with fail
        go_roundw
        case rel => exact ⟨k + 1, _, r, by omega, rfl, by rw [grd_no HG.out HM.out], by go_num, rfl, by rw [grd_no HG.out HM.out]; exact hr⟩
        case measure => simp [intOf]; omega
      · go_wp2_with fail
        go_roundw
        case rel => exact ⟨k + 1, _, r, by omega, rfl, by rw [grd_no HG.out HM.out], by go_num, rfl, by rw [grd_no HG.out HM.out]; exact hr⟩
        case measure => simp [intOf]; omega
      · go_wp2_with fail
        go_roundw
        case rel => exact ⟨k + 1, _, q, by omega, rfl, by rw [grd_first HG.out HM.out], by go_num, rfl, by rw [grd_first HG.out HM.out]; exact Hq.out rfl⟩
        case measure => simp [intOf]; omega
      · cases hc : (cf .f32 q r == some .lt) with
        | true =>
          have HC := Lib.hid (grd_lt HG.out HM.out (Hq.out rfl) hr.out hc)
          go_wp2_with fail
          go_roundw
          case rel => exact ⟨k + 1, _, q, by omega, rfl, by rw [HC.out], by go_num, rfl, by rw [HC.out]; exact Hq.out rfl⟩
          case measure => simp [intOf]; omega
        | false =>
          have HC := Lib.hid (grd_ge HG.out HM.out (Hq.out rfl) hr.out hc)
          go_wp2_with fail
          go_roundw
          case rel => exact ⟨k + 1, _, r, by omega, rfl, by rw [HC.out], by go_num, rfl, by rw [HC.out]; exact hr⟩
          case measure => simp [intOf]; omega
    · obtain rfl : k = m + 1 := by omega
      go_wp2_with fail
      exact bodyPost_ret (v := .tuple #[.float .f32 r, .bool (grd F (m + 1)).2]) (by simp only [results, Try.results70]; go_simp) rfl ⟨⟨r, hr.out, rfl⟩, _, rfl⟩
end
end Go.Proofs.Ytdkkdohbmpjfdaa
