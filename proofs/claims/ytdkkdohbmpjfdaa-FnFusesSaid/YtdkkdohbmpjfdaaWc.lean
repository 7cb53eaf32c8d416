/-
  HeatFuse of the program and of the reference, and the law over both.
-/
import Derived.Test.YtdkkdohbmpjfdaaWb
import Derived.Test.YtdkkdohbmpjfdaaSf
namespace Go.Proofs.Ytdkkdohbmpjfdaa
open Go.RowKit Go.Fl Go.Lb

set_option maxHeartbeats 400000 in
theorem eqFuse_any (h l c h' l' c' : Nat) (w : World) (e0 : cn .f32 h = cn .f32 h') (e1 : cn .f32 l = cn .f32 l') (e2 : cn .f32 c = cn .f32 c') :
    Calls Try.prog 22 #[fuseV h l c, fuseV h' l' c'] w fun e w' => e = .returned (.bool true) ∧ Below w.heap.size w w' := by
  have E0 := Lib.hid e0
  have E1 := Lib.hid e1
  have E2 := Lib.hid e2
  clear e0 e1 e2
  go_enter Try.func22, Try.ntmps22
  go_wp2_with (refine wpList_wide rfl _ _ _ rfl Try.underlying22 Try.underlying62 _ rfl ?_; intro r n hr)
  refine (sameFloat_wide _ _ _ _ _ E0.out (by assumption) (by assumption)).mono ?_
  rintro e w' ⟨rfl, n, rfl⟩
  go_wp2_with (refine wpList_wide rfl _ _ _ rfl Try.underlying22 Try.underlying62 _ rfl ?_; intro r n hr)
  refine (sameFloat_wide _ _ _ _ _ E1.out (by assumption) (by assumption)).mono ?_
  rintro e w' ⟨rfl, n, rfl⟩
  go_wp2_with (refine wpList_wide rfl _ _ _ rfl Try.underlying22 Try.underlying62 _ rfl ?_; intro r n hr)
  refine (sameFloat_wide _ _ _ _ _ E2.out (by assumption) (by assumption)).mono ?_
  rintro e w' ⟨rfl, n, rfl⟩
  go_wp2_with fail
  go_ret
  exact ⟨rfl, (by repeat' (first | (with_reducible exact Below.refl _ _) | (with_reducible assumption) | (with_reducible refine below_drewN ?_ _) | (with_reducible refine Below.drew ?_) | (with_reducible refine below_alloc ?_ _) | (with_reducible refine Below.setCell ?_ ?_ _) | (with_reducible refine below_then ?_ (by assumption)) | omega | (simp; done) | (simp; omega)))⟩

/-- the heat behind some ticks -/
def heat1 (h c cur t : Nat) : Nat := fb .sub .f32 (fb .add .f32 (cn .f32 h) (fb .mul .f32 (fb .mul .f32 (cn .f32 cur) (cn .f32 cur)) (cn .f32 t))) (fb .mul .f32 (cn .f32 c) (cn .f32 t))
def heat (h c cur t : Nat) : Nat := if ltz (heat1 h c cur t) then 0 else heat1 h c cur t
/-- 'a >= b' -/
def geq (a b : Nat) : Bool := cf .f32 a b == some .gt || cf .f32 a b == some .eq
/-- how a HeatFuse ends -/
def HeatOk (h l c cur t : Nat) (e : Ending) : Prop :=
  if vfuse (heat h c cur t) l c then ∃ r, cn .f32 r = heat h c cur t ∧ e = .returned (.tuple #[fuseV r l c, .bool (geq (heat h c cur t) l), .bool true])
  else e = .returned (.tuple #[fuseV 0 0 0, .bool false, .bool false])
theorem vfuse_cn (h l c : Nat) : vfuse (cn .f32 h) l c = vfuse h l c := by unfold vfuse; rw [nearB_cn]
theorem geq_cn (h l : Nat) : geq (cn .f32 h) l = geq h l := by unfold geq; rw [cf_cn_left]
theorem HeatOk.of {h l c cur t r : Nat} {e : Ending} (hr : cn .f32 r = heat h c cur t)
    (hy : vfuse r l c = true → e = .returned (.tuple #[fuseV r l c, .bool (geq r l), .bool true]))
    (hn : vfuse r l c = false → e = .returned (.tuple #[fuseV 0 0 0, .bool false, .bool false])) : HeatOk h l c cur t e := by
  unfold HeatOk
  rw [← hr, vfuse_cn, geq_cn]
  cases hv : vfuse r l c with
  | true => exact ⟨r, rfl, hy hv⟩
  | false => exact hn hv

theorem heat_of {h c cur t a b d e r : Nat} (ha : cn .f32 a = fb .mul .f32 (cn .f32 cur) (cn .f32 cur)) (hb : cn .f32 b = fb .mul .f32 (cn .f32 a) (cn .f32 t)) (hd : cn .f32 d = fb .add .f32 (cn .f32 h) (cn .f32 b))
    (he : cn .f32 e = fb .mul .f32 (cn .f32 c) (cn .f32 t)) (hr : cn .f32 r = fb .sub .f32 (cn .f32 d) (cn .f32 e)) : cn .f32 r = heat1 h c cur t := by
  rw [hr, hd, hb, ha, he]; rfl
theorem heat_lt {h c cur t r : Nat} (hr : cn .f32 r = heat1 h c cur t) (hl : (cf .f32 r 0 == some .lt) = true) : cn .f32 0 = heat h c cur t := by
  unfold heat
  rw [← hr, ltz_cn, show ltz r = true from hl]
  exact cn_of_not (by decide +kernel)
theorem heat_ge {h c cur t r : Nat} (hr : cn .f32 r = heat1 h c cur t) (hl : (cf .f32 r 0 == some .lt) = false) : cn .f32 r = heat h c cur t := by
  unfold heat
  rw [← hr, ltz_cn, show ltz r = false from hl]
  rfl
set_option maxHeartbeats 1000000 in
theorem l07Heat_any (h l c cur t : Nat) (w : World) :
    Calls Try.prog 53 #[fuseV h l c, .float .f32 cur, .float .f32 t] w fun e w' => HeatOk h l c cur t e ∧ Below w.heap.size w w' := by
  go_enter Try.func53, Try.ntmps53
  go_wp2_with (refine wpList_fl rfl _ _ _ _ _ rfl rfl .f32 _ _ rfl rfl ?_; intro r n hr)
  · have HQ := Lib.hid (heat_lt (heat_of (h := h) (c := c) (cur := cur) (t := t) (by assumption) (by assumption) (by assumption) (by assumption) hr) (by assumption))
    refine (l07Fuse_any _ 0 l c _ (by go_simp) (by go_simp) (by go_simp)).mono ?_
    rintro e w' ⟨rfl, n, rfl⟩
    generalize hv : vfuse 0 l c = b
    have HV := Lib.hid hv
    clear hv hr
    cases b
    · go_wp2_with fail
      exact bodyPost_ret (v := .tuple #[fuseV 0 0 0, .bool false, .bool false]) (by simp [results, Try.results53, go_sem]) rfl ⟨HeatOk.of HQ.out (fun h => by rw [HV.out] at h; cases h) (fun _ => rfl), (by repeat' (first | (with_reducible exact Below.refl _ _) | (with_reducible assumption) | (with_reducible refine below_drewN ?_ _) | (with_reducible refine Below.drew ?_) | (with_reducible refine below_alloc ?_ _) | (with_reducible refine Below.setCell ?_ ?_ _) | (with_reducible refine below_then ?_ (by assumption)) | omega | (simp; done) | (simp; omega)))⟩
    · go_wp2_with fail
      refine wp_abs (fun W => (W.cell? ⟨w.heap.size, 0, none⟩ = some (.float .f32 0) ∧ W.cell? ⟨w.heap.size, 1, none⟩ = some (.float .f32 l) ∧ W.cell? ⟨w.heap.size, 2, none⟩ = some (.float .f32 c)) ∧
        (W.cell? ⟨w.heap.size + 1, 0, none⟩ = some (.float .f32 0) ∧ W.cell? ⟨w.heap.size + 1, 1, none⟩ = some (.float .f32 0) ∧ W.cell? ⟨w.heap.size + 1, 2, none⟩ = some (.float .f32 0)) ∧
        (W.frozen? ⟨w.heap.size + 1, 0, none⟩ = false ∧ W.frozen? ⟨w.heap.size + 1, 1, none⟩ = false ∧ W.frozen? ⟨w.heap.size + 1, 2, none⟩ = false) ∧ Below w.heap.size w W)
        ⟨⟨by go_simp, by go_simp, by go_simp⟩, ⟨by go_simp, by go_simp, by go_simp⟩, ⟨by go_simp, by go_simp, by go_simp⟩, (by repeat' (first | (with_reducible exact Below.refl _ _) | (with_reducible assumption) | (with_reducible refine below_drewN ?_ _) | (with_reducible refine Below.drew ?_) | (with_reducible refine below_alloc ?_ _) | (with_reducible refine Below.setCell ?_ ?_ _) | (with_reducible refine below_then ?_ (by assumption)) | omega | (simp; done) | (simp; omega)))⟩ ?_
      rintro W ⟨⟨c0, c1, c2⟩, ⟨d0, d1, d2⟩, ⟨z0, z1, z2⟩, hB⟩
      go_region
      all_goals
        go_wp2_with fail
        exact bodyPost_ret (v := .tuple #[fuseV 0 l c, .bool (geq 0 l), .bool true]) (by simp [results, Try.results53, go_sem, d0, d1, d2]; rfl) rfl ⟨HeatOk.of HQ.out (fun _ => rfl) (fun h => by rw [HV.out] at h; cases h), (by repeat' (first | (with_reducible exact Below.refl _ _) | (with_reducible assumption) | (with_reducible refine below_drewN ?_ _) | (with_reducible refine Below.drew ?_) | (with_reducible refine below_alloc ?_ _) | (with_reducible refine Below.setCell ?_ ?_ _) | (with_reducible refine below_then ?_ (by assumption)) | omega | (simp; done) | (simp; omega)))⟩
  · have HQ := Lib.hid (heat_ge (heat_of (h := h) (c := c) (cur := cur) (t := t) (by assumption) (by assumption) (by assumption) (by assumption) hr) (by assumption))
    refine (l07Fuse_any _ r l c _ (by go_simp) (by go_simp) (by go_simp)).mono ?_
    rintro e w' ⟨rfl, n, rfl⟩
    generalize hv : vfuse r l c = b
    have HV := Lib.hid hv
    clear hv hr
    cases b
    · go_wp2_with fail
      exact bodyPost_ret (v := .tuple #[fuseV 0 0 0, .bool false, .bool false]) (by simp [results, Try.results53, go_sem]) rfl ⟨HeatOk.of HQ.out (fun h => by rw [HV.out] at h; cases h) (fun _ => rfl), (by repeat' (first | (with_reducible exact Below.refl _ _) | (with_reducible assumption) | (with_reducible refine below_drewN ?_ _) | (with_reducible refine Below.drew ?_) | (with_reducible refine below_alloc ?_ _) | (with_reducible refine Below.setCell ?_ ?_ _) | (with_reducible refine below_then ?_ (by assumption)) | omega | (simp; done) | (simp; omega)))⟩
    · go_wp2_with fail
      refine wp_abs (fun W => (W.cell? ⟨w.heap.size, 0, none⟩ = some (.float .f32 r) ∧ W.cell? ⟨w.heap.size, 1, none⟩ = some (.float .f32 l) ∧ W.cell? ⟨w.heap.size, 2, none⟩ = some (.float .f32 c)) ∧
        (W.cell? ⟨w.heap.size + 1, 0, none⟩ = some (.float .f32 0) ∧ W.cell? ⟨w.heap.size + 1, 1, none⟩ = some (.float .f32 0) ∧ W.cell? ⟨w.heap.size + 1, 2, none⟩ = some (.float .f32 0)) ∧
        (W.frozen? ⟨w.heap.size + 1, 0, none⟩ = false ∧ W.frozen? ⟨w.heap.size + 1, 1, none⟩ = false ∧ W.frozen? ⟨w.heap.size + 1, 2, none⟩ = false) ∧ Below w.heap.size w W)
        ⟨⟨by go_simp, by go_simp, by go_simp⟩, ⟨by go_simp, by go_simp, by go_simp⟩, ⟨by go_simp, by go_simp, by go_simp⟩, (by repeat' (first | (with_reducible exact Below.refl _ _) | (with_reducible assumption) | (with_reducible refine below_drewN ?_ _) | (with_reducible refine Below.drew ?_) | (with_reducible refine below_alloc ?_ _) | (with_reducible refine Below.setCell ?_ ?_ _) | (with_reducible refine below_then ?_ (by assumption)) | omega | (simp; done) | (simp; omega)))⟩ ?_
      rintro W ⟨⟨c0, c1, c2⟩, ⟨d0, d1, d2⟩, ⟨z0, z1, z2⟩, hB⟩
      go_region
      all_goals
        go_wp2_with fail
        exact bodyPost_ret (v := .tuple #[fuseV r l c, .bool (geq r l), .bool true]) (by simp [results, Try.results53, go_sem, d0, d1, d2]; rfl) rfl ⟨HeatOk.of HQ.out (fun _ => rfl) (fun h => by rw [HV.out] at h; cases h), (by repeat' (first | (with_reducible exact Below.refl _ _) | (with_reducible assumption) | (with_reducible refine below_drewN ?_ _) | (with_reducible refine Below.drew ?_) | (with_reducible refine below_alloc ?_ _) | (with_reducible refine Below.setCell ?_ ?_ _) | (with_reducible refine below_then ?_ (by assumption)) | omega | (simp; done) | (simp; omega)))⟩

theorem ne_true_of_not {b : Bool} (h : (!b) = true) : ¬ b = true := by cases b <;> simp_all
theorem true_of_not {b : Bool} (h : (!b) = false) : b = true := by cases b <;> simp_all
/-- how HeatFuse ends, whatever comes in -/
def HeatAll (h l c cur t : Nat) (e : Ending) : Prop :=
  if vfuse h l c && nearB t then HeatOk h l c cur t e else e = .returned (.tuple #[fuseV 0 0 0, .bool false, .bool false])
theorem HeatAll.no {h l c cur t : Nat} (hn : (vfuse h l c && nearB t) = false) : HeatAll h l c cur t (.returned (.tuple #[fuseV 0 0 0, .bool false, .bool false])) := by
  unfold HeatAll; rw [hn]; rfl
theorem HeatAll.yes {h l c cur t : Nat} {e : Ending} (hn : (vfuse h l c && nearB t) = true) (he : HeatOk h l c cur t e) : HeatAll h l c cur t e := by
  unfold HeatAll; rw [hn]; exact he
theorem HeatOk.cases {h l c cur t : Nat} {e : Ending} (he : HeatOk h l c cur t e) : (∃ r, e = .returned (.tuple #[fuseV r l c, .bool (geq r l), .bool true]) ∧ Hid (HeatOk h l c cur t (.returned (.tuple #[fuseV r l c, .bool (geq r l), .bool true])))) ∨
    (e = .returned (.tuple #[fuseV 0 0 0, .bool false, .bool false]) ∧ Hid (HeatOk h l c cur t (.returned (.tuple #[fuseV 0 0 0, .bool false, .bool false])))) := by
  have he' := he
  unfold HeatOk at he'
  split at he'
  · obtain ⟨r, hr, rfl⟩ := he'
    refine .inl ⟨r, ?_, ?_⟩
    · rw [← hr, geq_cn]
    · rw [← hr, geq_cn] at he; exact he
  · subst he'
    exact .inr ⟨rfl, he⟩
set_option maxHeartbeats 1000000 in
theorem heatFuseS_any (h l c cur t : Nat) (w : World) :
    Calls Try.prog 21 #[fuseV h l c, .float .f32 cur, .float .f32 t] w fun e w' => HeatAll h l c cur t e ∧ Below w.heap.size w w' := by
  go_enter Try.func21, Try.ntmps21
  cases hv : vfuse h l c <;> cases hn : nearB t
  case true.true =>
    go_wp2_with (first | (go_at_call 49; refine (l07Fuse_any _ h l c _ (by go_simp) (by go_simp) (by go_simp)).mono ?_; rintro e w' ⟨rfl, n, rfl⟩) | (go_at_call 52; refine (l03Near_any _ _).mono ?_; rintro e w' ⟨rfl, n, rfl⟩))
    refine (l07Heat_any _ _ _ _ _ _).mono ?_
    rintro e w1 ⟨he, hb⟩
    obtain ⟨hc, hf⟩ := bcell hb
    have hk := below_lt hb
    simp at hk hc hf
    have hyes : (vfuse h l c && nearB t) = true := by rw [hv, hn]; rfl
    rcases he.cases with ⟨r, rfl, HE⟩ | ⟨rfl, HE⟩
    · go_wp2_with fail
      exact bodyPost_ret (v := .tuple #[fuseV r l c, .bool (geq r l), .bool true]) (by simp only [results, Try.results21]; go_simp) rfl ⟨HeatAll.yes hyes HE.out, (by repeat' (first | (with_reducible exact Below.refl _ _) | (with_reducible assumption) | (with_reducible refine below_drewN ?_ _) | (with_reducible refine Below.drew ?_) | (with_reducible refine below_alloc ?_ _) | (with_reducible refine Below.setCell ?_ ?_ _) | (with_reducible refine below_then ?_ (by assumption)) | omega | (simp; done) | (simp; omega)))⟩
    · go_wp2_with fail
      exact bodyPost_ret (v := .tuple #[fuseV 0 0 0, .bool false, .bool false]) (by simp only [results, Try.results21]; go_simp) rfl ⟨HeatAll.yes hyes HE.out, (by repeat' (first | (with_reducible exact Below.refl _ _) | (with_reducible assumption) | (with_reducible refine below_drewN ?_ _) | (with_reducible refine Below.drew ?_) | (with_reducible refine below_alloc ?_ _) | (with_reducible refine Below.setCell ?_ ?_ _) | (with_reducible refine below_then ?_ (by assumption)) | omega | (simp; done) | (simp; omega)))⟩
  all_goals
    go_wp2_with (first | (go_at_call 49; refine (l07Fuse_any _ h l c _ (by go_simp) (by go_simp) (by go_simp)).mono ?_; rintro e w' ⟨rfl, n, rfl⟩) | (go_at_call 52; refine (l03Near_any _ _).mono ?_; rintro e w' ⟨rfl, n, rfl⟩))
    exact bodyPost_ret (v := .tuple #[fuseV 0 0 0, .bool false, .bool false]) (by simp [results, Try.results21, go_sem]) rfl ⟨HeatAll.no (by rw [hv, hn]; rfl), (by repeat' (first | (with_reducible exact Below.refl _ _) | (with_reducible assumption) | (with_reducible refine below_drewN ?_ _) | (with_reducible refine Below.drew ?_) | (with_reducible refine below_alloc ?_ _) | (with_reducible refine Below.setCell ?_ ?_ _) | (with_reducible refine below_then ?_ (by assumption)) | omega | (simp; done) | (simp; omega)))⟩
set_option maxHeartbeats 1000000 in
theorem heatFuseI_any (h l c cur t : Nat) (w : World) :
    Calls Try.prog 20 #[fuseV h l c, .float .f32 cur, .float .f32 t] w fun e w' => HeatAll h l c cur t e ∧ Below w.heap.size w w' := by
  go_enter Try.func20, Try.ntmps20
  cases hv : vfuse h l c <;> cases hn : nearB t
  case true.true =>
    have hyes : Hid ((vfuse h l c && nearB t) = true) := by rw [hv, hn]; rfl
    go_wp2_with (first | (go_at_call 16; refine (validFuseI_any _ _ _ _).mono ?_; rintro e w1 ⟨rfl, hb⟩; have hz := hb.size; (try simp at hz); obtain ⟨hc0, hf0, hx0⟩ := bcell0 hb w.heap.size (by first | assumption | omega | (simp; done) | (simp; omega)); obtain ⟨hc1, hf1, hx1⟩ := bcell0 hb (w.heap.size + 1) (by first | assumption | omega | (simp; done) | (simp; omega))) | (go_at_call 50; refine (levelOne_any _ t _ (by go_simp)).mono ?_; rintro e w' ⟨rfl, n, rfl⟩) | (refine wpList_fl rfl _ _ _ _ _ rfl rfl .f32 _ _ rfl rfl ?_; intro r n hr))
    · have HQ := Lib.hid (heat_lt (heat_of (h := h) (c := c) (cur := cur) (t := t) (by assumption) (by assumption) (by assumption) (by assumption) hr) (by assumption))
      exact bodyPost_ret (v := .tuple #[fuseV 0 0 0, .bool false, .bool false]) (by simp only [results, Try.results20]; go_simp) rfl ⟨HeatAll.yes hyes.out (HeatOk.of HQ.out (fun h => absurd h (ne_true_of_not (by assumption))) (fun _ => rfl)), (by repeat' (first | (with_reducible exact Below.refl _ _) | (with_reducible assumption) | (with_reducible refine below_drewN ?_ _) | (with_reducible refine Below.drew ?_) | (with_reducible refine below_alloc ?_ _) | (with_reducible refine Below.setCell ?_ ?_ _) | (with_reducible refine below_then ?_ (by assumption)) | omega | (simp; done) | (simp; omega)))⟩
    · have HQ := Lib.hid (heat_lt (heat_of (h := h) (c := c) (cur := cur) (t := t) (by assumption) (by assumption) (by assumption) (by assumption) hr) (by assumption))
      have HV : Hid (vfuse 0 l c = true) := true_of_not (by assumption)
      refine wp_abs (fun W => (W.cell? ⟨w.heap.size, 0, none⟩ = some (.float .f32 0) ∧ W.cell? ⟨w.heap.size, 1, none⟩ = some (.float .f32 l) ∧ W.cell? ⟨w.heap.size, 2, none⟩ = some (.float .f32 c)) ∧
        (W.cell? ⟨w.heap.size + 1, 0, none⟩ = some (.float .f32 0) ∧ W.cell? ⟨w.heap.size + 1, 1, none⟩ = some (.float .f32 0) ∧ W.cell? ⟨w.heap.size + 1, 2, none⟩ = some (.float .f32 0)) ∧
        (W.frozen? ⟨w.heap.size + 1, 0, none⟩ = false ∧ W.frozen? ⟨w.heap.size + 1, 1, none⟩ = false ∧ W.frozen? ⟨w.heap.size + 1, 2, none⟩ = false) ∧ Below w.heap.size w W)
        ⟨⟨by go_simp, by go_simp, by go_simp⟩, ⟨by go_simp, by go_simp, by go_simp⟩, ⟨by go_simp, by go_simp, by go_simp⟩, (by repeat' (first | (with_reducible exact Below.refl _ _) | (with_reducible assumption) | (with_reducible refine below_drewN ?_ _) | (with_reducible refine Below.drew ?_) | (with_reducible refine below_alloc ?_ _) | (with_reducible refine Below.setCell ?_ ?_ _) | (with_reducible refine below_then ?_ (by assumption)) | omega | (simp; done) | (simp; omega)))⟩ ?_
      rintro W ⟨⟨c0, c1, c2⟩, ⟨d0, d1, d2⟩, ⟨z0, z1, z2⟩, hB⟩
      go_region
      all_goals
        go_wp2_with fail
        exact bodyPost_ret (v := .tuple #[fuseV 0 l c, .bool (geq 0 l), .bool true]) (by simp [results, Try.results20, go_sem, d0, d1, d2]; rfl) rfl ⟨HeatAll.yes hyes.out (HeatOk.of HQ.out (fun _ => rfl) (fun h => by rw [HV.out] at h; cases h)), (by repeat' (first | (with_reducible exact Below.refl _ _) | (with_reducible assumption) | (with_reducible refine below_drewN ?_ _) | (with_reducible refine Below.drew ?_) | (with_reducible refine below_alloc ?_ _) | (with_reducible refine Below.setCell ?_ ?_ _) | (with_reducible refine below_then ?_ (by assumption)) | omega | (simp; done) | (simp; omega)))⟩
    · have HQ := Lib.hid (heat_ge (heat_of (h := h) (c := c) (cur := cur) (t := t) (by assumption) (by assumption) (by assumption) (by assumption) hr) (by assumption))
      exact bodyPost_ret (v := .tuple #[fuseV 0 0 0, .bool false, .bool false]) (by simp only [results, Try.results20]; go_simp) rfl ⟨HeatAll.yes hyes.out (HeatOk.of HQ.out (fun h => absurd h (ne_true_of_not (by assumption))) (fun _ => rfl)), (by repeat' (first | (with_reducible exact Below.refl _ _) | (with_reducible assumption) | (with_reducible refine below_drewN ?_ _) | (with_reducible refine Below.drew ?_) | (with_reducible refine below_alloc ?_ _) | (with_reducible refine Below.setCell ?_ ?_ _) | (with_reducible refine below_then ?_ (by assumption)) | omega | (simp; done) | (simp; omega)))⟩
    · have HQ := Lib.hid (heat_ge (heat_of (h := h) (c := c) (cur := cur) (t := t) (by assumption) (by assumption) (by assumption) (by assumption) hr) (by assumption))
      have HV : Hid (vfuse r l c = true) := true_of_not (by assumption)
      refine wp_abs (fun W => (W.cell? ⟨w.heap.size, 0, none⟩ = some (.float .f32 r) ∧ W.cell? ⟨w.heap.size, 1, none⟩ = some (.float .f32 l) ∧ W.cell? ⟨w.heap.size, 2, none⟩ = some (.float .f32 c)) ∧
        (W.cell? ⟨w.heap.size + 1, 0, none⟩ = some (.float .f32 0) ∧ W.cell? ⟨w.heap.size + 1, 1, none⟩ = some (.float .f32 0) ∧ W.cell? ⟨w.heap.size + 1, 2, none⟩ = some (.float .f32 0)) ∧
        (W.frozen? ⟨w.heap.size + 1, 0, none⟩ = false ∧ W.frozen? ⟨w.heap.size + 1, 1, none⟩ = false ∧ W.frozen? ⟨w.heap.size + 1, 2, none⟩ = false) ∧ Below w.heap.size w W)
        ⟨⟨by go_simp, by go_simp, by go_simp⟩, ⟨by go_simp, by go_simp, by go_simp⟩, ⟨by go_simp, by go_simp, by go_simp⟩, (by repeat' (first | (with_reducible exact Below.refl _ _) | (with_reducible assumption) | (with_reducible refine below_drewN ?_ _) | (with_reducible refine Below.drew ?_) | (with_reducible refine below_alloc ?_ _) | (with_reducible refine Below.setCell ?_ ?_ _) | (with_reducible refine below_then ?_ (by assumption)) | omega | (simp; done) | (simp; omega)))⟩ ?_
      rintro W ⟨⟨c0, c1, c2⟩, ⟨d0, d1, d2⟩, ⟨z0, z1, z2⟩, hB⟩
      go_region
      all_goals
        go_wp2_with fail
        exact bodyPost_ret (v := .tuple #[fuseV r l c, .bool (geq r l), .bool true]) (by simp [results, Try.results20, go_sem, d0, d1, d2]; rfl) rfl ⟨HeatAll.yes hyes.out (HeatOk.of HQ.out (fun _ => rfl) (fun h => by rw [HV.out] at h; cases h)), (by repeat' (first | (with_reducible exact Below.refl _ _) | (with_reducible assumption) | (with_reducible refine below_drewN ?_ _) | (with_reducible refine Below.drew ?_) | (with_reducible refine below_alloc ?_ _) | (with_reducible refine Below.setCell ?_ ?_ _) | (with_reducible refine below_then ?_ (by assumption)) | omega | (simp; done) | (simp; omega)))⟩
  all_goals
    go_wp2_with (first | (go_at_call 16; refine (validFuseI_any _ _ _ _).mono ?_; rintro e w1 ⟨rfl, hb⟩; have hz := hb.size; (try simp at hz); obtain ⟨hc0, hf0, hx0⟩ := bcell0 hb w.heap.size (by first | assumption | omega | (simp; done) | (simp; omega)); obtain ⟨hc1, hf1, hx1⟩ := bcell0 hb (w.heap.size + 1) (by first | assumption | omega | (simp; done) | (simp; omega))) | (go_at_call 50; refine (levelOne_any _ t _ (by go_simp)).mono ?_; rintro e w' ⟨rfl, n, rfl⟩))
    exact bodyPost_ret (v := .tuple #[fuseV 0 0 0, .bool false, .bool false]) (by simp [results, Try.results20]; go_simp) rfl ⟨HeatAll.no (by rw [hv, hn]; rfl), (by repeat' (first | (with_reducible exact Below.refl _ _) | (with_reducible assumption) | (with_reducible refine below_drewN ?_ _) | (with_reducible refine Below.drew ?_) | (with_reducible refine below_alloc ?_ _) | (with_reducible refine Below.setCell ?_ ?_ _) | (with_reducible refine below_then ?_ (by assumption)) | omega | (simp; done) | (simp; omega)))⟩
end Go.Proofs.Ytdkkdohbmpjfdaa
