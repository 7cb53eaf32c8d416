/-
  RunFuse of the program and of the reference.
-/
import Derived.Test.YtdkkdohbmpjfdaaWd
import Derived.Deep.DeepCutAuto
namespace Go.Proofs.Ytdkkdohbmpjfdaa
open Go.RowKit Go.Fl Go.Lb

theorem cn_of_vfuse {r l c : Nat} (h : vfuse r l c = true) : cn .f32 r = r := by
  refine cn_of_not (fin_not_nan ?_)
  unfold vfuse nearB at h
  simp only [Bool.and_eq_true] at h
  exact h.1.1.1
abbrev heatV (R : Nat × Nat × Nat × Bool × Bool) : Ending := .returned (.tuple #[fuseV R.1 R.2.1 R.2.2.1, .bool R.2.2.2.1, .bool R.2.2.2.2])
theorem HeatOk.det {h l c cur t : Nat} {e : Ending} (hv : (vfuse h l c && nearB t) = true) (he : HeatOk h l c cur t e) : e = heatV (heatR h l c cur t) := by
  unfold HeatOk at he
  unfold heatR
  rw [hv]
  cases h2 : vfuse (heat h c cur t) l c with
  | false => rw [h2] at he; exact he
  | true =>
    rw [h2] at he
    obtain ⟨r, hr, rfl⟩ := he
    have hc : r = heat h c cur t := by
      have h3 : vfuse r l c = true := by rw [← vfuse_cn, hr]; exact h2
      rw [← hr, cn_of_vfuse h3]
    rw [hc]
    rfl
theorem HeatAll.det {h l c cur t : Nat} {e : Ending} (he : HeatAll h l c cur t e) : e = heatV (heatR h l c cur t) := by
  unfold HeatAll at he
  cases h1 : (vfuse h l c && nearB t) with
  | false =>
    rw [h1] at he
    unfold heatR
    rw [h1]
    exact he
  | true =>
    rw [h1] at he
    exact HeatOk.det h1 he
theorem heatR_ok {h l c cur t : Nat} (hk : (heatR h l c cur t).2.2.2.2 = true) : (heatR h l c cur t).2.1 = l ∧ (heatR h l c cur t).2.2.1 = c ∧ vfuse (heatR h l c cur t).1 l c = true ∧ nearB t = true := by
  unfold heatR at *
  split
  · rename_i hv
    simp only [Bool.and_eq_true] at hv
    exact ⟨rfl, rfl, hv.2, hv.1.2⟩
  · rename_i hv
    rw [if_neg hv] at hk
    cases hk
theorem heatR_no {h l c cur t : Nat} (hk : (heatR h l c cur t).2.2.2.2 = false) : heatR h l c cur t = (0, 0, 0, false, false) := by
  unfold heatR at *
  split
  · rename_i hv; rw [if_pos hv] at hk; cases hk
  · rfl
/-- what a run of a fuse comes to -/
def runR (h l c t : Nat) : Nat → List Nat → Int × Nat × Nat × Nat × Bool
  | _, [] => (-1, h, l, c, true)
  | i, x :: xs => if (heatR h l c x t).2.2.2.2 then (if (heatR h l c x t).2.2.2.1 then ((i : Int), (heatR h l c x t).1, l, c, true) else runR (heatR h l c x t).1 l c t (i + 1) xs) else (0, 0, 0, 0, false)
def runAll (h l c t : Nat) (xs : List Nat) : Int × Nat × Nat × Nat × Bool :=
  if (vfuse h l c && nearB t) && decide (xs.length ≤ 256) then runR h l c t 0 xs else (0, 0, 0, 0, false)
abbrev runV (R : Int × Nat × Nat × Nat × Bool) : Value := .tuple #[.int .i64 R.1, fuseV R.2.1 R.2.2.1 R.2.2.2.1, .bool R.2.2.2.2]
theorem runAll_no {h l c t : Nat} {xs : List Nat} (hn : ((vfuse h l c && nearB t) && decide (xs.length ≤ 256)) = false) : runV (runAll h l c t xs) = .tuple #[.int .i64 0, fuseV 0 0 0, .bool false] := by
  unfold runAll; rw [hn]; rfl
theorem runAll_yes {h l c t : Nat} {xs : List Nat} (hn : ((vfuse h l c && nearB t) && decide (xs.length ≤ 256)) = true) : runAll h l c t xs = runR h l c t 0 xs := by
  unfold runAll; rw [hn]; rfl
theorem runR_no {h l c t i : Nat} {x : Nat} {xs : List Nat} (hk : (heatR h l c x t).2.2.2.2 = false) : runR h l c t i (x :: xs) = (0, 0, 0, 0, false) := by
  simp only [runR, hk]; rfl
theorem runR_blown {h l c t i : Nat} {x : Nat} {xs : List Nat} (hk : (heatR h l c x t).2.2.2.2 = true) (hb : (heatR h l c x t).2.2.2.1 = true) : runR h l c t i (x :: xs) = ((i : Int), (heatR h l c x t).1, l, c, true) := by
  simp only [runR, hk, hb]; rfl
theorem runR_on {h l c t i : Nat} {x : Nat} {xs : List Nat} (hk : (heatR h l c x t).2.2.2.2 = true) (hb : (heatR h l c x t).2.2.2.1 = false) : runR h l c t i (x :: xs) = runR (heatR h l c x t).1 l c t (i + 1) xs := by
  simp only [runR, hk, hb]; rfl
theorem heatR_cases (h l c x t : Nat) : heatR h l c x t = (0, 0, 0, false, false) ∨ ∃ r bl, heatR h l c x t = (r, l, c, bl, true) ∧ vfuse r l c = true := by
  cases hk : (heatR h l c x t).2.2.2.2 with
  | false => exact .inl (heatR_no hk)
  | true =>
    obtain ⟨h1, h2, h3, _⟩ := heatR_ok hk
    refine .inr ⟨(heatR h l c x t).1, (heatR h l c x t).2.2.2.1, ?_, h3⟩
    refine Prod.ext rfl (Prod.ext h1 (Prod.ext h2 (Prod.ext rfl hk)))
theorem drop_ge {xs : List Nat} {k : Nat} (hk : k < xs.length) : xs.drop k = ge xs k :: xs.drop (k + 1) := by rw [ge_eq hk]; exact List.drop_eq_getElem_cons hk

set_option maxHeartbeats 2000000 in
theorem runFuseI_any (h l c t : Nat) (A : Option Addr) (cp : Nat) (xs : List Nat) (w : World) (HX : RdF w A xs) :
    Calls Try.prog 19 #[fuseV h l c, .slice A xs.length cp, .float .f32 t] w fun e w' => e = .returned (runV (runAll h l c t xs)) ∧ Below w.heap.size w w' := by
  have hm := HX.1
  cases hv : vfuse h l c <;> cases hn : nearB t <;> cases hl : decide (xs.length ≤ 256)
  case true.true.true =>
    have hyes : ((vfuse h l c && nearB t) && decide (xs.length ≤ 256)) = true := by rw [hv, hn, hl]; rfl
    have HA := Lib.hid (runAll_yes hyes)
    have HV0 := Lib.hid hv
    have HN := Lib.hid hn
    have hl' : xs.length ≤ 256 := by simpa using hl
    clear hyes hl
    go_enter Try.func19, Try.ntmps19
    go_wp2_with (first | (go_at_call 16; refine (validFuseI_any _ _ _ _).mono ?_; rintro e w1 ⟨rfl, hb⟩; have hz := hb.size; (try simp at hz); obtain ⟨hc0, hf0, hx0⟩ := bcell0 hb w.heap.size (by first | assumption | omega | (simp; done) | (simp; omega)); obtain ⟨hc1, hf1, hx1⟩ := bcell0 hb (w.heap.size + 1) (by first | assumption | omega | (simp; done) | (simp; omega))) | (go_at_call 50; refine (levelOne_any _ t _ (by go_simp)).mono ?_; rintro e w' ⟨rfl, n, rfl⟩))
    have B0 := ((Blk.new w 26 [.float .f32 h, .float .f32 l, .float .f32 c]).alloc _).below hb
    have B1 := (Blk.new (w.alloc (.cells #[.float .f32 h, .float .f32 l, .float .f32 c] 26)) 26 [.float .f32 0, .float .f32 0, .float .f32 0]).below hb
    rw [World.size_alloc] at B1
    go_loopw [31] (fun i wr => ∃ (k : Nat) (h' : Nat), k ≤ xs.length ∧ i = .int .i64 k ∧ Blk wr w.heap.size 26 [.float .f32 h', .float .f32 l, .float .f32 c] ∧ Blk wr (w.heap.size + 1) 26 [.float .f32 0, .float .f32 0, .float .f32 0] ∧
      Hid (vfuse h' l c = true) ∧ Hid (runAll h l c t xs = runR h' l c t k (xs.drop k)) ∧ Below w.heap.size w wr) (fun i _ => xs.length - (intOf i).toNat)
    case atStart => exact ⟨0, h, Nat.zero_le _, rfl, (B0.alloc _).drewN _, (B1.alloc _).drewN _, HV0, HA, (by repeat' (first | (with_reducible exact Below.refl _ _) | (with_reducible assumption) | (with_reducible refine below_drewN ?_ _) | (with_reducible refine Below.drew ?_) | (with_reducible refine below_alloc ?_ _) | (with_reducible refine Below.setCell ?_ ?_ _) | (with_reducible refine below_then ?_ (by assumption)) | omega | (simp; done) | (simp; omega)))⟩
    case round =>
      obtain ⟨k, h', hk, rfl, HB0, HB1, HV, HR, HW⟩ := hrel
      clear B0 B1 hb hz hc0 hf0 hx0 hc1 hf1 hx1
      have b0 := HB0.c0; have b1 := HB0.c1; have b2 := HB0.c2
      by_cases hlt : k < xs.length
      · obtain ⟨ad, rfl, hcx⟩ := (HX.below HW).at_ hlt
        go_wp2_with fail
        refine (heatFuseI_any _ _ _ _ _ _).mono ?_
        rintro e w2 ⟨he, hb2⟩
        have C0 := HB0.below hb2
        have C1 := HB1.below hb2
        have HW2 := below_then HW hb2
        rcases heatR_cases h' l c (ge xs k) t with hz | ⟨r, bl, hR', hvr⟩
        · obtain rfl : e = .returned (.tuple #[fuseV 0 0 0, .bool false, .bool false]) := by rw [he.det, hz]
          have HE : Hid (runAll h l c t xs = (0, 0, 0, 0, false)) := by
            show _ = _
            rw [HR.out, drop_ge hlt, runR_no (by rw [hz])]
          have d0 := C1.c0; have d1 := C1.c1; have d2 := C1.c2
          have f0 := C1.frozen 0; have f1 := C1.frozen 1; have f2 := C1.frozen 2
          have x1 := C1.lt
          clear hz he b0 b1 b2 hcx HR
          go_wp2_with fail
          exact bodyPost_ret (v := .tuple #[.int .i64 0, fuseV 0 0 0, .bool false]) (by simp only [results, Try.results19]; go_simp) rfl ⟨by rw [HE.out], (by repeat' (first | (with_reducible exact Below.refl _ _) | (with_reducible assumption) | (with_reducible refine below_drewN ?_ _) | (with_reducible refine Below.drew ?_) | (with_reducible refine below_alloc ?_ _) | (with_reducible refine Below.setCell ?_ ?_ _) | (with_reducible refine below_then ?_ (by assumption)) | omega | (simp; done) | (simp; omega)))⟩
        · obtain rfl : e = .returned (.tuple #[fuseV r l c, .bool bl, .bool true]) := by rw [he.det, hR']
          have d0 := C1.c0; have d1 := C1.c1; have d2 := C1.c2
          have e0 := C0.c0; have e1 := C0.c1; have e2 := C0.c2
          have f0 := C1.frozen 0; have f1 := C1.frozen 1; have f2 := C1.frozen 2
          have g0 := C0.frozen 0; have g1 := C0.frozen 1; have g2 := C0.frozen 2
          have x1 := C1.lt
          have x0 := C0.lt
          cases bl with
          | true =>
            have HE : Hid (runAll h l c t xs = ((k : Int), r, l, c, true)) := by
              show _ = _
              rw [HR.out, drop_ge hlt, runR_blown (by rw [hR']) (by rw [hR']), hR']
            clear hR' he b0 b1 b2 hcx HR
            go_wp2_with fail
            refine wp_abs (fun W => Blk W w.heap.size 26 [.float .f32 r, .float .f32 l, .float .f32 c] ∧ Blk W (w.heap.size + 1) 26 [.float .f32 0, .float .f32 0, .float .f32 0] ∧ Below w.heap.size w W)
              ⟨(C0.set3 _ _ _).alloc _, (((C1.other (by simp) _).other (by simp) _).other (by simp) _).alloc _, (by repeat' (first | (with_reducible exact Below.refl _ _) | (with_reducible assumption) | (with_reducible refine below_drewN ?_ _) | (with_reducible refine Below.drew ?_) | (with_reducible refine below_alloc ?_ _) | (with_reducible refine Below.setCell ?_ ?_ _) | (with_reducible refine below_then ?_ (by assumption)) | omega | (simp; done) | (simp; omega)))⟩ ?_
            clear d0 d1 d2 e0 e1 e2 f0 f1 f2 g0 g1 g2 x0 x1
            rintro W ⟨D0, D1, HW3⟩
            have d0 := D1.c0; have d1 := D1.c1; have d2 := D1.c2
            have e0 := D0.c0; have e1 := D0.c1; have e2 := D0.c2
            have f0 := D1.frozen 0; have f1 := D1.frozen 1; have f2 := D1.frozen 2
            go_region
            all_goals
              go_wp2_with fail
              exact bodyPost_ret (v := .tuple #[.int .i64 k, fuseV r l c, .bool true]) (by simp only [results, Try.results19]; go_simp) rfl ⟨by rw [HE.out], (by repeat' (first | (with_reducible exact Below.refl _ _) | (with_reducible assumption) | (with_reducible refine below_drewN ?_ _) | (with_reducible refine Below.drew ?_) | (with_reducible refine below_alloc ?_ _) | (with_reducible refine Below.setCell ?_ ?_ _) | (with_reducible refine below_then ?_ (by assumption)) | omega | (simp; done) | (simp; omega)))⟩
          | false =>
            have HE : Hid (runAll h l c t xs = runR r l c t (k + 1) (xs.drop (k + 1))) := by
              show _ = _
              rw [HR.out, drop_ge hlt, runR_on (by rw [hR']) (by rw [hR']), hR']
            clear hR' he b0 b1 b2 hcx HR
            go_wp2_with fail
            go_roundw
            case rel => exact ⟨k + 1, r, by omega, by go_num, (C0.set3 _ _ _).alloc _, (((C1.other (by simp) _).other (by simp) _).other (by simp) _).alloc _, hvr, HE, (by repeat' (first | (with_reducible exact Below.refl _ _) | (with_reducible assumption) | (with_reducible refine below_drewN ?_ _) | (with_reducible refine Below.drew ?_) | (with_reducible refine below_alloc ?_ _) | (with_reducible refine Below.setCell ?_ ?_ _) | (with_reducible refine below_then ?_ (by assumption)) | omega | (simp; done) | (simp; omega)))⟩
            case measure => simp [intOf]; omega
      · obtain rfl : k = xs.length := by omega
        have d0 := HB1.c0; have d1 := HB1.c1; have d2 := HB1.c2
        have f0 := HB1.frozen 0; have f1 := HB1.frozen 1; have f2 := HB1.frozen 2
        have HE : Hid (runAll h l c t xs = (-1, h', l, c, true)) := by
          show _ = _
          rw [HR.out, List.drop_length]; rfl
        go_wp2_with fail
        go_region
        all_goals
          go_wp2_with fail
          exact bodyPost_ret (v := .tuple #[.int .i64 (-1), fuseV h' l c, .bool true]) (by simp only [results, Try.results19]; go_simp) rfl ⟨by rw [HE.out], (by repeat' (first | (with_reducible exact Below.refl _ _) | (with_reducible assumption) | (with_reducible refine below_drewN ?_ _) | (with_reducible refine Below.drew ?_) | (with_reducible refine below_alloc ?_ _) | (with_reducible refine Below.setCell ?_ ?_ _) | (with_reducible refine below_then ?_ (by assumption)) | omega | (simp; done) | (simp; omega)))⟩
  all_goals
    have HN := Lib.hid (runAll_no (h := h) (l := l) (c := c) (t := t) (xs := xs) (by rw [hv, hn, hl]; rfl))
    have hl' : decide (256 < (xs.length : Int)) = !decide (xs.length ≤ 256) := by
      rw [Bool.eq_iff_iff]; simp; omega
    rw [hl] at hl'
    go_enter Try.func19, Try.ntmps19
    go_wp2_with (first | (go_at_call 16; refine (validFuseI_any _ _ _ _).mono ?_; rintro e w1 ⟨rfl, hb⟩; have hz := hb.size; (try simp at hz); obtain ⟨hc0, hf0, hx0⟩ := bcell0 hb w.heap.size (by first | assumption | omega | (simp; done) | (simp; omega)); obtain ⟨hc1, hf1, hx1⟩ := bcell0 hb (w.heap.size + 1) (by first | assumption | omega | (simp; done) | (simp; omega))) | (go_at_call 50; refine (levelOne_any _ t _ (by go_simp)).mono ?_; rintro e w' ⟨rfl, n, rfl⟩))
    exact bodyPost_ret (v := .tuple #[.int .i64 0, fuseV 0 0 0, .bool false]) (by simp only [results, Try.results19]; go_simp) rfl ⟨by rw [HN.out], (by repeat' (first | (with_reducible exact Below.refl _ _) | (with_reducible assumption) | (with_reducible refine below_drewN ?_ _) | (with_reducible refine Below.drew ?_) | (with_reducible refine below_alloc ?_ _) | (with_reducible refine Below.setCell ?_ ?_ _) | (with_reducible refine below_then ?_ (by assumption)) | omega | (simp; done) | (simp; omega)))⟩
set_option maxHeartbeats 2000000 in
theorem runFuseS_any (h l c t : Nat) (A : Option Addr) (cp : Nat) (xs : List Nat) (w : World) (HX : RdF w A xs) :
    Calls Try.prog 23 #[fuseV h l c, .slice A xs.length cp, .float .f32 t] w fun e w' => e = .returned (runV (runAll h l c t xs)) ∧ Below w.heap.size w w' := by
  have hm := HX.1
  cases hv : vfuse h l c <;> cases hn : nearB t <;> cases hl : decide (xs.length ≤ 256)
  case true.true.true =>
    have hyes : ((vfuse h l c && nearB t) && decide (xs.length ≤ 256)) = true := by rw [hv, hn, hl]; rfl
    have HA := Lib.hid (runAll_yes hyes)
    have HV0 := Lib.hid hv
    have HN := Lib.hid hn
    have hl' : xs.length ≤ 256 := by simpa using hl
    clear hyes hl
    go_enter Try.func23, Try.ntmps23
    go_wp2_with (first | (go_at_call 49; refine (l07Fuse_any _ h l c _ (by go_simp) (by go_simp) (by go_simp)).mono ?_; rintro e w' ⟨rfl, n, rfl⟩) | (go_at_call 52; refine (l03Near_any _ _).mono ?_; rintro e w' ⟨rfl, n, rfl⟩))
    have B0 := (Blk.new w 26 [.float .f32 h, .float .f32 l, .float .f32 c]).alloc (.cells #[.float .f32 0, .float .f32 0, .float .f32 0] 26)
    have B1 := (Blk.new (w.alloc (.cells #[.float .f32 h, .float .f32 l, .float .f32 c] 26)) 26 [.float .f32 0, .float .f32 0, .float .f32 0])
    rw [World.size_alloc] at B1
    go_loopw [28] (fun i wr => ∃ (k : Nat) (h' : Nat), k ≤ xs.length ∧ i = .int .i64 k ∧ Blk wr w.heap.size 26 [.float .f32 h', .float .f32 l, .float .f32 c] ∧ Blk wr (w.heap.size + 1) 26 [.float .f32 0, .float .f32 0, .float .f32 0] ∧
      Hid (vfuse h' l c = true) ∧ Hid (runAll h l c t xs = runR h' l c t k (xs.drop k)) ∧ Below w.heap.size w wr) (fun i _ => xs.length - (intOf i).toNat)
    case atStart => exact ⟨0, h, Nat.zero_le _, rfl, B0.drewN _, B1.drewN _, HV0, HA, (by repeat' (first | (with_reducible exact Below.refl _ _) | (with_reducible assumption) | (with_reducible refine below_drewN ?_ _) | (with_reducible refine Below.drew ?_) | (with_reducible refine below_alloc ?_ _) | (with_reducible refine Below.setCell ?_ ?_ _) | (with_reducible refine below_then ?_ (by assumption)) | omega | (simp; done) | (simp; omega)))⟩
    case round =>
      obtain ⟨k, h', hk, rfl, HB0, HB1, HV, HR, HW⟩ := hrel
      clear B0 B1
      have b0 := HB0.c0; have b1 := HB0.c1; have b2 := HB0.c2
      by_cases hlt : k < xs.length
      · obtain ⟨ad, rfl, hcx⟩ := (HX.below HW).at_ hlt
        have y0 := HB0.lt; have y1 := HB1.lt
        have hcxA : ∀ o, (wr.alloc o).cell? (ad.add k) = some (.float .f32 (ge xs k)) := fun o => cell_keep (below_alloc (Below.refl _ _) o) hcx
        have hvn : (vfuse h' l c && nearB t) = true := by rw [HV.out, HN.out]; rfl
        have hca := heatR_cases h' l c (ge xs k) t
        obtain ⟨⟨r, l2, c2, bl, ok⟩, hR'⟩ : ∃ R, heatR h' l c (ge xs k) t = R := ⟨_, rfl⟩
        have HC := Lib.hid fun W => (l07Heat_any h' l c (ge xs k) t W).mono (R' := fun e w' => e = .returned (.tuple #[.agg #[.float .f32 r, .float .f32 l2, .float .f32 c2], .bool bl, .bool ok]) ∧ Below W.heap.size W w') fun e w' ⟨he, hb⟩ => ⟨by rw [HeatOk.det hvn he, hR'], hb⟩
        rw [hR'] at hca
        have HCA := Lib.hid hca
        have HRR := Lib.hid hR'
        clear hvn hca hR'
        go_upto_region 6 with fail
        go_cut [10, 11, 12] (fun s10 s11 s12 wx => ∃ g : Nat, s10 = .pointer (some ⟨g, 0, none⟩) ∧ s11 = .bool bl ∧ s12 = .bool ok ∧ Blk wx g 26 [.float .f32 r, .float .f32 l2, .float .f32 c2] ∧
          Blk wx w.heap.size 26 [.float .f32 h', .float .f32 l, .float .f32 c] ∧ Blk wx (w.heap.size + 1) 26 [.float .f32 0, .float .f32 0, .float .f32 0] ∧ Below w.heap.size w wx)
        case first =>
          go_region_with (((go_at_call 53; refine (HC.out _).mono ?_; rintro e w2 ⟨rfl, hb2⟩; (try (with_reducible have hA := bcellNew hb2; obtain ⟨hcA, hfA, hxA⟩ := hA)); (try (with_reducible have hA2 := blkNew hb2; obtain ⟨CA, hxB⟩ := hA2)); have C0 : Blk w2 _ _ _ := Blk.below (by first | exact HB0 | exact Blk.alloc HB0 _) hb2; have C1 : Blk w2 _ _ _ := Blk.below (by first | exact HB1 | exact Blk.alloc HB1 _) hb2; have HW2 : Below w.heap.size w w2 := below_then (by first | exact HW.drew | exact below_alloc HW.drew _) hb2)))
          all_goals
            go_wp2_with fail
            go_meet
            exact ⟨_, rfl, rfl, rfl, (by repeat' (first | (with_reducible assumption) | (with_reducible exact Blk.new _ _ _) | (with_reducible refine Blk.alloc ?_ _) | (with_reducible refine Blk.drewN ?_ _) | (with_reducible refine Blk.drewS ?_) | (with_reducible apply Blk.set3) | (with_reducible refine Blk.other ?_ ?_ _) | omega | (simp; done) | (simp; omega))), (by repeat' (first | (with_reducible assumption) | (with_reducible exact Blk.new _ _ _) | (with_reducible refine Blk.alloc ?_ _) | (with_reducible refine Blk.drewN ?_ _) | (with_reducible refine Blk.drewS ?_) | (with_reducible apply Blk.set3) | (with_reducible refine Blk.other ?_ ?_ _) | omega | (simp; done) | (simp; omega))), (by repeat' (first | (with_reducible assumption) | (with_reducible exact Blk.new _ _ _) | (with_reducible refine Blk.alloc ?_ _) | (with_reducible refine Blk.drewN ?_ _) | (with_reducible refine Blk.drewS ?_) | (with_reducible apply Blk.set3) | (with_reducible refine Blk.other ?_ ?_ _) | omega | (simp; done) | (simp; omega))), (by repeat' (first | (with_reducible exact Below.refl _ _) | (with_reducible assumption) | (with_reducible refine below_drewN ?_ _) | (with_reducible refine Below.drew ?_) | (with_reducible refine below_alloc ?_ _) | (with_reducible refine Below.setCell ?_ ?_ _) | (with_reducible refine below_then ?_ (by assumption)) | omega | (simp; done) | (simp; omega)))⟩
        case rest =>
          obtain ⟨g, rfl, rfl, rfl, CG, C0, C1, HW2⟩ := hcut
          have d0 := C1.c0; have d1 := C1.c1; have d2 := C1.c2
          have e0 := C0.c0; have e1 := C0.c1; have e2 := C0.c2
          have q0 := CG.c0; have q1 := CG.c1; have q2 := CG.c2
          have f0 := C1.frozen 0; have f1 := C1.frozen 1; have f2 := C1.frozen 2
          have g0 := C0.frozen 0; have g1 := C0.frozen 1; have g2 := C0.frozen 2
          have x1 := C1.lt
          have x0 := C0.lt
          clear b0 b1 b2 hcx hcxA y0 y1
          rcases HCA.out with hz | ⟨r', bl', hz, hvr⟩
          · simp only [Prod.mk.injEq] at hz
            obtain ⟨rfl, rfl, rfl, rfl, rfl⟩ := hz
            have HE : Hid (runAll h l c t xs = (0, 0, 0, 0, false)) := by
              show _ = _
              rw [HR.out, drop_ge hlt, runR_no (by rw [HRR.out])]
            clear HCA HRR
            go_wp2_with fail
            exact bodyPost_ret (v := .tuple #[.int .i64 0, fuseV 0 0 0, .bool false]) (by simp only [results, Try.results23]; go_simp) rfl ⟨by rw [HE.out], (by repeat' (first | (with_reducible exact Below.refl _ _) | (with_reducible assumption) | (with_reducible refine below_drewN ?_ _) | (with_reducible refine Below.drew ?_) | (with_reducible refine below_alloc ?_ _) | (with_reducible refine Below.setCell ?_ ?_ _) | (with_reducible refine below_then ?_ (by assumption)) | omega | (simp; done) | (simp; omega)))⟩
          · simp only [Prod.mk.injEq] at hz
            obtain ⟨rfl, rfl, rfl, rfl, rfl⟩ := hz
            cases bl with
            | true =>
              have HE : Hid (runAll h l2 c2 t xs = ((k : Int), r, l2, c2, true)) := by
                show _ = _
                rw [HR.out, drop_ge hlt, runR_blown (by rw [HRR.out]) (by rw [HRR.out]), HRR.out]
              clear HCA HRR
              go_wp2_with fail
              refine wp_abs (fun W => Blk W w.heap.size 26 [.float .f32 r, .float .f32 l2, .float .f32 c2] ∧ Blk W (w.heap.size + 1) 26 [.float .f32 0, .float .f32 0, .float .f32 0] ∧ Below w.heap.size w W)
                ⟨(by repeat' (first | (with_reducible assumption) | (with_reducible exact Blk.new _ _ _) | (with_reducible refine Blk.alloc ?_ _) | (with_reducible refine Blk.drewN ?_ _) | (with_reducible refine Blk.drewS ?_) | (with_reducible apply Blk.set3) | (with_reducible refine Blk.other ?_ ?_ _) | omega | (simp; done) | (simp; omega))), (by repeat' (first | (with_reducible assumption) | (with_reducible exact Blk.new _ _ _) | (with_reducible refine Blk.alloc ?_ _) | (with_reducible refine Blk.drewN ?_ _) | (with_reducible refine Blk.drewS ?_) | (with_reducible apply Blk.set3) | (with_reducible refine Blk.other ?_ ?_ _) | omega | (simp; done) | (simp; omega))), (by repeat' (first | (with_reducible exact Below.refl _ _) | (with_reducible assumption) | (with_reducible refine below_drewN ?_ _) | (with_reducible refine Below.drew ?_) | (with_reducible refine below_alloc ?_ _) | (with_reducible refine Below.setCell ?_ ?_ _) | (with_reducible refine below_then ?_ (by assumption)) | omega | (simp; done) | (simp; omega)))⟩ ?_
              clear d0 d1 d2 e0 e1 e2 f0 f1 f2 g0 g1 g2 x0 x1 q0 q1 q2
              rintro W ⟨D0, D1, HW3⟩
              have d0 := D1.c0; have d1 := D1.c1; have d2 := D1.c2
              have e0 := D0.c0; have e1 := D0.c1; have e2 := D0.c2
              have f0 := D1.frozen 0; have f1 := D1.frozen 1; have f2 := D1.frozen 2
              go_region
              all_goals
                go_wp2_with fail
                exact bodyPost_ret (v := .tuple #[.int .i64 k, fuseV r l2 c2, .bool true]) (by simp only [results, Try.results23]; go_simp) rfl ⟨by rw [HE.out], (by repeat' (first | (with_reducible exact Below.refl _ _) | (with_reducible assumption) | (with_reducible refine below_drewN ?_ _) | (with_reducible refine Below.drew ?_) | (with_reducible refine below_alloc ?_ _) | (with_reducible refine Below.setCell ?_ ?_ _) | (with_reducible refine below_then ?_ (by assumption)) | omega | (simp; done) | (simp; omega)))⟩
            | false =>
              have HE : Hid (runAll h l2 c2 t xs = runR r l2 c2 t (k + 1) (xs.drop (k + 1))) := by
                show _ = _
                rw [HR.out, drop_ge hlt, runR_on (by rw [HRR.out]) (by rw [HRR.out]), HRR.out]
              clear HCA HRR
              go_wp2_with fail
              go_roundw
              case rel => exact ⟨k + 1, r, by omega, by go_num, (by repeat' (first | (with_reducible assumption) | (with_reducible exact Blk.new _ _ _) | (with_reducible refine Blk.alloc ?_ _) | (with_reducible refine Blk.drewN ?_ _) | (with_reducible refine Blk.drewS ?_) | (with_reducible apply Blk.set3) | (with_reducible refine Blk.other ?_ ?_ _) | omega | (simp; done) | (simp; omega))), (by repeat' (first | (with_reducible assumption) | (with_reducible exact Blk.new _ _ _) | (with_reducible refine Blk.alloc ?_ _) | (with_reducible refine Blk.drewN ?_ _) | (with_reducible refine Blk.drewS ?_) | (with_reducible apply Blk.set3) | (with_reducible refine Blk.other ?_ ?_ _) | omega | (simp; done) | (simp; omega))), hvr, HE, (by repeat' (first | (with_reducible exact Below.refl _ _) | (with_reducible assumption) | (with_reducible refine below_drewN ?_ _) | (with_reducible refine Below.drew ?_) | (with_reducible refine below_alloc ?_ _) | (with_reducible refine Below.setCell ?_ ?_ _) | (with_reducible refine below_then ?_ (by assumption)) | omega | (simp; done) | (simp; omega)))⟩
              case measure => simp [intOf]; omega
      · obtain rfl : k = xs.length := by omega
        have d0 := HB1.c0; have d1 := HB1.c1; have d2 := HB1.c2
        have f0 := HB1.frozen 0; have f1 := HB1.frozen 1; have f2 := HB1.frozen 2
        have HE : Hid (runAll h l c t xs = (-1, h', l, c, true)) := by
          show _ = _
          rw [HR.out, List.drop_length]; rfl
        go_wp2_with fail
        go_region
        all_goals
          go_wp2_with fail
          exact bodyPost_ret (v := .tuple #[.int .i64 (-1), fuseV h' l c, .bool true]) (by simp only [results, Try.results23]; go_simp) rfl ⟨by rw [HE.out], (by repeat' (first | (with_reducible exact Below.refl _ _) | (with_reducible assumption) | (with_reducible refine below_drewN ?_ _) | (with_reducible refine Below.drew ?_) | (with_reducible refine below_alloc ?_ _) | (with_reducible refine Below.setCell ?_ ?_ _) | (with_reducible refine below_then ?_ (by assumption)) | omega | (simp; done) | (simp; omega)))⟩
  all_goals
    have HN := Lib.hid (runAll_no (h := h) (l := l) (c := c) (t := t) (xs := xs) (by rw [hv, hn, hl]; rfl))
    have hl' : decide (256 < (xs.length : Int)) = !decide (xs.length ≤ 256) := by
      rw [Bool.eq_iff_iff]; simp; omega
    rw [hl] at hl'
    go_enter Try.func23, Try.ntmps23
    go_wp2_with (first | (go_at_call 49; refine (l07Fuse_any _ h l c _ (by go_simp) (by go_simp) (by go_simp)).mono ?_; rintro e w' ⟨rfl, n, rfl⟩) | (go_at_call 52; refine (l03Near_any _ _).mono ?_; rintro e w' ⟨rfl, n, rfl⟩))
    exact bodyPost_ret (v := .tuple #[.int .i64 0, fuseV 0 0 0, .bool false]) (by simp only [results, Try.results23]; go_simp) rfl ⟨by rw [HN.out], (by repeat' (first | (with_reducible exact Below.refl _ _) | (with_reducible assumption) | (with_reducible refine below_drewN ?_ _) | (with_reducible refine Below.drew ?_) | (with_reducible refine below_alloc ?_ _) | (with_reducible refine Below.setCell ?_ ?_ _) | (with_reducible refine below_then ?_ (by assumption)) | omega | (simp; done) | (simp; omega)))⟩
end Go.Proofs.Ytdkkdohbmpjfdaa
