/-
  The law FnFuses, walked.
-/
import Derived.Test.YtdkkdohbmpjfdaaFw
import Derived.Test.YtdkkdohbmpjfdaaRo
import Derived.Test.YtdkkdohbmpjfdaaWi
import Derived.Deep.DeepCutAuto
import Derived.Deep.RegionHeld
import Derived.Deep.Slices
namespace Go.Proofs.Ytdkkdohbmpjfdaa
open Go.RowKit Go.Fl Go.Lb

theorem runAt_any (h l c t : Nat) (A : Option Addr) (cp m : Nat) (zs : List Nat) (r : Int) (h' : Nat) (w : World) (HX : RdF w A zs) (hl : zs.length = m) (hR : runAll h l c t zs = (r, h', l, c, true)) :
    Calls Try.prog 19 #[fuseV h l c, .slice A m cp, .float .f32 t] w fun e w' => e = .returned (.tuple #[.int .i64 r, fuseV h' l c, .bool true]) ∧ Below w.heap.size w w' := by
  subst hl
  refine (runFuseI_any h l c t A cp zs w HX).mono ?_
  rintro e w' ⟨rfl, hb⟩
  rw [hR]
  exact ⟨rfl, hb⟩
theorem heatAt_any (h l c cur t hot : Nat) (bl : Bool) (w : World) (hR : heatR h l c cur t = (hot, l, c, bl, true)) :
    Calls Try.prog 20 #[fuseV h l c, .float .f32 cur, .float .f32 t] w fun e w' => e = .returned (.tuple #[fuseV hot l c, .bool bl, .bool true]) ∧ Below w.heap.size w w' := by
  refine (heatFuseI_any h l c cur t w).mono ?_
  rintro e w' ⟨he, hb⟩
  exact ⟨by rw [he.det, hR], hb⟩
theorem RdF.take {w : World} {A : Option Addr} {xs : List Nat} (h : RdF w A xs) (k : Nat) : RdF w A (xs.take k) := by
  refine ⟨Nat.le_trans (List.length_take_le' _ _) h.1, fun hk => ?_⟩
  rw [List.length_take] at hk
  obtain ⟨ad, e, hc⟩ := h.2 (by omega)
  refine ⟨ad, e, fun j hj => ?_⟩
  have hj' := hj
  rw [List.length_take] at hj'
  have := hc j (by omega)
  show _ = some (Value.float .f32 (ge (xs.take k) j))
  rw [ge_eq hj, List.getElem_take, ← ge_eq (by omega)]
  exact this
theorem RdF.drop {w : World} {ad : Addr} {xs : List Nat} (h : RdF w (some ad) xs) (k : Nat) : RdF w (some (ad.add k)) (xs.drop k) := by
  refine ⟨by rw [List.length_drop]; have := h.1; omega, fun hk => ?_⟩
  rw [List.length_drop] at hk
  obtain ⟨ad', e, hc⟩ := h.2 (by omega)
  injection e with e
  subst e
  refine ⟨_, rfl, fun j hj => ?_⟩
  have hj' := hj
  rw [List.length_drop] at hj'
  have := hc (k + j) (by omega)
  show _ = some (Value.float .f32 (ge (xs.drop k) j))
  rw [ge_eq hj, List.getElem_drop, ← ge_eq (by omega), Go.Deep.add_add]
  exact this
theorem RdF.none {w : World} (A : Option Addr) : RdF w A [] := ⟨by simp, fun h => absurd h (by simp)⟩
theorem eqSelf_run {a : Nat} (h : isN .f32 a = false) (W : World) : (Op.equalIn 9999 22 (.float .f32 a) (.float .f32 a)).run Try.prog W = .ok true W := by
  have he : Op.floatEq .f32 a a = true := by
    unfold Op.floatEq
    have := order_self .f32 h
    first | (rw [this]; rfl) | simp [this]
  rw [show (9999 : Nat) = 9998 + 1 from rfl, Op.equalIn]
  simp [run_underlying Try.underlying22, he]
theorem vfuse_num {h l c : Nat} (hv : vfuse h l c = true) : isN .f32 h = false ∧ isN .f32 l = false ∧ isN .f32 c = false := by
  unfold vfuse nearB plusB at hv
  simp only [Bool.and_eq_true] at hv
  exact ⟨fin_not_nan hv.1.1.1, fin_not_nan hv.2.1, fin_not_nan hv.1.2.1⟩
set_option maxRecDepth 100000 in
set_option maxHeartbeats 4000000 in
theorem fnFuses_walk (A B : Option Addr) (c d : Nat) (xs ys : List Int) (w : World) (HX : RdU w A xs) (HY : RdU w B ys) :
    Calls Try.prog 4 #[.slice A xs.length c, .slice B ys.length d] w fun e w' => e = .returned (.bool true) ∧ Below w.heap.size w w' := by
  have hm := HX.1.1
  have hm2 := HY.1.1
  cases hlong : (decide (1048576 < xs.length) || decide (1048576 < ys.length)) with
  | true =>
    have HL := Lib.hid hlong
    clear hlong
    go_enter Try.func4, Try.ntmps4
    go_wp2_with fail
    refine (b10Long_any A B c d xs.length ys.length _ hm hm2).mono ?_
    rintro e w' ⟨rfl, rfl⟩
    rw [HL.out]
    go_wp2_with fail
    go_ret
    exact ⟨rfl, (by repeat' (first | (with_reducible exact Below.refl _ _) | (with_reducible assumption) | (with_reducible refine below_drewN ?_ _) | (with_reducible refine Below.drew ?_) | (with_reducible refine below_alloc ?_ _) | (with_reducible refine Below.setCell ?_ ?_ _) | (with_reducible refine below_then ?_ (by assumption)) | omega | (simp; done) | (simp; omega)))⟩
  | false =>
    have HL := Lib.hid hlong
    clear hlong
    go_enter Try.func4, Try.ntmps4
    go_wp2_with fail
    refine (b10Long_any A B c d xs.length ys.length _ hm hm2).mono ?_
    rintro e w' ⟨rfl, rfl⟩
    rw [HL.out]
    go_wp2_with fail
    refine (b10At_any A c xs 0 6 _ HX (by omega) (by omega) (by omega)).mono ?_
    rintro e w' ⟨n, hn, rfl, rfl⟩
    go_wp2_with fail
    refine (b10At_any A c xs 1 60 _ HX (by omega) (by omega) (by omega)).mono ?_
    rintro e w' ⟨l, hl, rfl, rfl⟩
    go_wp2_with fail
    refine (b10At_any A c xs 2 5 _ HX (by omega) (by omega) (by omega)).mono ?_
    rintro e w' ⟨b, hb, rfl, rfl⟩
    have g1 := heat_at hn
    have g2 := (limit_at hl).1
    rw [show ((10 + l : Nat) : Int) = 10 + (l : Int) by omega] at g2
    have g3 : ∀ W, fv W .quo .f32 (floatOfInt .f32 (b : Int)) 1082130432 = quarter b := fun W => fv_quarter W (by omega)
    have g4 : fd .quo .f32 (floatOfInt .f32 (b : Int)) 1082130432 = 0 := fd_quarter (by omega)
    obtain ⟨H, hH⟩ : ∃ H, hI (32 * n) = H := ⟨_, rfl⟩
    obtain ⟨L, hLL⟩ : ∃ L, hI (32 * (10 + l)) = L := ⟨_, rfl⟩
    obtain ⟨C, hC⟩ : ∃ C, quarter b = C := ⟨_, rfl⟩
    rw [hH] at g1
    rw [hLL] at g2
    simp only [hC] at g3
    have HE := Lib.hid (And.intro hH (And.intro hLL hC))
    clear hH hLL hC
    go_wp2_with fail
    clear g1 g2 g3 g4
    obtain ⟨i0, hI⟩ := info_parts infoF32
    have HI := Lib.hid hI
    clear hI
    have F0 : Blk ((w.alloc (.cells #[.float .f32 H, .float .f32 L, .float .f32 C] 26)).alloc (.cells #[] 22)) w.heap.size 26 [.float .f32 H, .float .f32 L, .float .f32 C] := Blk.alloc (Blk.new w 26 [.float .f32 H, .float .f32 L, .float .f32 C]) _
    have HO1 : OwnF ((w.alloc (.cells #[.float .f32 H, .float .f32 L, .float .f32 C] 26)).alloc (.cells #[] 22)) (w.heap.size + 1) (.slice (some ⟨w.heap.size + 1, 0, none⟩) 0 0) [] := by
      have := Blk.new (w.alloc (.cells #[.float .f32 H, .float .f32 L, .float .f32 C] 26)) 22 []
      simp at this
      exact OwnF.of (xs := []) (ys := []) (Nat.le_refl _) this (by simp) (by unfold maxLen; omega) (by simp)
    go_loopw [6, 7] (fun v kv wr => ∃ (k : Nat) (qs : List Nat), k ≤ 8 ∧ kv = .int .i64 k ∧ OwnF wr (w.heap.size + 1) v qs ∧ Below w.heap.size w wr ∧ Blk wr w.heap.size 26 [.float .f32 H, .float .f32 L, .float .f32 C] ∧ Hid (qs.length = k ∧ curs qs)) (fun _ kv _ => 8 - (intOf kv).toNat)
    case atStart => exact ⟨0, [], by omega, rfl, HO1, (by repeat' (first | (with_reducible exact Below.refl _ _) | (with_reducible assumption) | (with_reducible refine below_drewN ?_ _) | (with_reducible refine Below.drew ?_) | (with_reducible refine below_alloc ?_ _) | (with_reducible refine Below.setCell ?_ ?_ _) | (with_reducible refine below_then ?_ (by assumption)) | omega | (simp; done) | (simp; omega))), F0, ⟨rfl, fun x hx => by simp at hx⟩⟩
    case round =>
      obtain ⟨k, qs, hk, rfl, HO, HW, HF, hq⟩ := hrel
      clear HO1 F0
      by_cases hlt : k < 8
      · have hki : (k : Int) < 8 := by omega
        go_wp2_with fail
        refine (b10At_any B d ys k 20 _ (HY.below HW) (by omega) (by omega) (by omega)).mono ?_
        rintro e w' ⟨a, ha, rfl, rfl⟩
        have g5 : ∀ W, fv W .quo .f32 (floatOfInt .f32 (a : Int)) 1082130432 = quarter a := fun W => fv_quarter W ha
        have g6 : fd .quo .f32 (floatOfInt .f32 (a : Int)) 1082130432 = 0 := fd_quarter ha
        obtain ⟨q, hqa⟩ : ∃ q, quarter a = q := ⟨_, rfl⟩
        simp only [hqa] at g5
        have HQA := Lib.hid hqa
        clear hqa
        have HSZ := HF.lt
        go_wp2_with (at_builtin; refine wpList_append_own _ rfl _ _ 32 rfl (w.heap.size + 1) 22 i0 (.float .f32 0) 1 4 Try.underlying32 HI.out.1 HI.out.2.1 HI.out.2.2.1 HI.out.2.2.2 rfl (by decide) _ _ _ rfl (by exact HO.below (by repeat' (first | (with_reducible exact Below.refl _ _) | (with_reducible assumption) | (with_reducible refine below_drewN ?_ _) | (with_reducible refine Below.drew ?_) | (with_reducible refine below_alloc ?_ _) | (with_reducible refine Below.setCell ?_ ?_ _) | (with_reducible refine below_then ?_ (by assumption)) | exact below_then (Below.drew (Below.refl _ _)) (by assumption) | omega | (simp; done) | (simp; omega)))) ⟨wr.heap.size, 0, none⟩ 1 1 [.float .f32 q] rfl rfl (by intro j u hu; match j, hu with | 0, hu => (injection hu with hu; subst hu; rw [Addr.add_zero']; exact Blk.c0 (l := []) (Blk.new _ _ [_]))) (by intro u hu; simp at hu; subst hu; rfl) (by have := hq.out.1; unfold maxLen; omega) (by have := hq.out.1; omega) (by simp; omega) ?_; intro v' w2 hown hgr _; have HO2 : OwnF w2 (w.heap.size + 1) v' (qs ++ [q]) := (by unfold OwnF; simpa using hown); have HW2 : Below w.heap.size w w2 := Below.grown (by exact (by repeat' (first | (with_reducible exact Below.refl _ _) | (with_reducible assumption) | (with_reducible refine below_drewN ?_ _) | (with_reducible refine Below.drew ?_) | (with_reducible refine below_alloc ?_ _) | (with_reducible refine Below.setCell ?_ ?_ _) | (with_reducible refine below_then ?_ (by assumption)) | exact below_then (Below.drew (Below.refl _ _)) (by assumption) | omega | (simp; done) | (simp; omega)))) hgr (by simp; omega) (fun k hk => by have := (World.ownsRow.lt HO k hk).1; omega); have HF2 := Blk.grown (HF.alloc (.cells #[.float .f32 q] 22)) hgr (fun e => by have := (World.ownsRow.lt HO _ e.symm).1; omega); clear hown hgr)
        go_roundw
        case rel =>
          refine ⟨k + 1, qs ++ [q], by omega, by go_num, HO2, HW2, HF2, ⟨by simp [hq.out.1], fun x hx => ?_⟩⟩
          rw [List.mem_append] at hx
          rcases hx with hx | hx
          · exact hq.out.2 x hx
          · obtain rfl : x = q := by simpa using hx
            exact ⟨a, ha, HQA.out.symm⟩
        case measure => simp [intOf]; omega
      · obtain rfl : k = 8 := by omega
        rcases HO.shape with ⟨_, hnil⟩ | ⟨g, cap, tl, hv, hg, HB, hc1, hc2, hc3⟩
        · have := hq.out.1
          rw [hnil] at this
          exact absurd this (by simp)
        have hq8 := hq.out.1
        rw [hq8] at hv hc1
        subst hv
        have HQ := Lib.hid hq.out
        clear hq HO hc3 hq8
        go_wp2_with fail
        refine (b10At_any A c xs 3 9 _ (HX.below HW) (by omega) (by omega) (by omega)).mono ?_
        rintro e w' ⟨cut, hcut, rfl, rfl⟩
        obtain ⟨at', first, he, hmid, e1, e2, v1, v2, b1, b2, f1, f2⟩ := fuses_plain (cut := cut) hn hl hb HQ.out.2 HQ.out.1 (by omega)
        rw [HE.out.1, HE.out.2.1, HE.out.2.2] at e1 e2
        simp only [HE.out.2.1, HE.out.2.2] at f2
        rw [HE.out.2.1, HE.out.2.2] at v1 v2
        have E1 := Lib.hid e1
        have E2 := Lib.hid e2
        have V1 := Lib.hid v1
        have V2 := Lib.hid v2
        have FF := Lib.hid (And.intro f1 f2)
        have RD : RdF wr (some ⟨g, 0, none⟩) qs := Blk.rdF' HB (by have := HQ.out.1; omega)
        have hcut' : (cut : Int) ≤ 8 := by omega
        have hcutc : (cut : Int) ≤ cap := by omega
        have hcut0 : (0 : Int) ≤ cut := by omega
        clear e1 e2 v1 v2 f1 f2
        have b0 := HF.c0; have b1' := HF.c1; have b2' := HF.c2
        go_wp2_with fail
        refine (runAt_any H L C half (some ⟨g, 0, none⟩) cap 8 qs at' he _ RD HQ.out.1 E1.out).mono ?_
        rintro e w1 ⟨rfl, hbn⟩
        have F1 := HF.below hbn
        have RD1 := RD.below hbn
        have HW1 := below_then HW hbn
        clear hbn b0 b1' b2' HF RD HB HW
        have T10 := Blk.new w1 26 [.float .f32 he, .float .f32 L, .float .f32 C]
        have F2 := F1.alloc (.cells #[.float .f32 he, .float .f32 L, .float .f32 C] 26)
        have RD2 := RD1.below (below_alloc (Below.refl _ _) (.cells #[.float .f32 he, .float .f32 L, .float .f32 C] 26))
        have HW2 := below_alloc HW1 (.cells #[.float .f32 he, .float .f32 L, .float .f32 C] 26)
        have hW : (w1.alloc (.cells #[.float .f32 he, .float .f32 L, .float .f32 C] 26)).heap.size = w1.heap.size + 1 := by simp
        have RT := RdF.take RD2 cut
        have hlt8 : (qs.take cut).length = cut := by rw [List.length_take]; have := HQ.out.1; omega
        have HLT := Lib.hid hlt8
        clear hlt8
        go_upto_region 11 with fail
        go_cut [12, 13, 14] (fun s12 s13 s14 wx => ∃ p : Nat, s12 = .int .i64 first ∧ s13 = .pointer (some ⟨p, 0, none⟩) ∧ s14 = .bool true ∧ Blk wx p 26 [.float .f32 hmid, .float .f32 L, .float .f32 C] ∧ Below (w1.heap.size + 1) (w1.alloc (.cells #[.float .f32 he, .float .f32 L, .float .f32 C] 26)) wx)
        case first =>
          go_region_held (fun w' => w'.cell? ⟨w.heap.size, 0, none⟩ = some (.float .f32 H) ∧ w'.cell? ⟨w.heap.size, 1, none⟩ = some (.float .f32 L) ∧ w'.cell? ⟨w.heap.size, 2, none⟩ = some (.float .f32 C))
            (exact ⟨cell_keep (by repeat' (first | (with_reducible exact Below.refl _ _) | (with_reducible assumption) | (with_reducible refine below_drewN ?_ _) | (with_reducible refine Below.drew ?_) | (with_reducible refine below_alloc ?_ _) | (with_reducible refine Below.setCell ?_ ?_ _) | (with_reducible refine below_then ?_ (by assumption)) | exact below_then (Below.drew (Below.refl _ _)) (by assumption) | omega | (simp; done) | (simp; omega))) F2.c0, cell_keep (by repeat' (first | (with_reducible exact Below.refl _ _) | (with_reducible assumption) | (with_reducible refine below_drewN ?_ _) | (with_reducible refine Below.drew ?_) | (with_reducible refine below_alloc ?_ _) | (with_reducible refine Below.setCell ?_ ?_ _) | (with_reducible refine below_then ?_ (by assumption)) | exact below_then (Below.drew (Below.refl _ _)) (by assumption) | omega | (simp; done) | (simp; omega))) F2.c1, cell_keep (by repeat' (first | (with_reducible exact Below.refl _ _) | (with_reducible assumption) | (with_reducible refine below_drewN ?_ _) | (with_reducible refine Below.drew ?_) | (with_reducible refine below_alloc ?_ _) | (with_reducible refine Below.setCell ?_ ?_ _) | (with_reducible refine below_then ?_ (by assumption)) | exact below_then (Below.drew (Below.refl _ _)) (by assumption) | omega | (simp; done) | (simp; omega))) F2.c2⟩)
            ((go_at_call 19; (refine (runAt_any H L C half (some ⟨g, 0, none⟩) cap cut (qs.take cut) first hmid _ (RT.below (by repeat' (first | (with_reducible exact Below.refl _ _) | (with_reducible assumption) | (with_reducible refine below_drewN ?_ _) | (with_reducible refine Below.drew ?_) | (with_reducible refine below_alloc ?_ _) | (with_reducible refine Below.setCell ?_ ?_ _) | (with_reducible refine below_then ?_ (by assumption)) | exact below_then (Below.drew (Below.refl _ _)) (by assumption) | omega | (simp; done) | (simp; omega)))) HLT.out E2.out).mono ?_; rintro e w2 ⟨rfl, hb2⟩; (try (have hxx := bcell0 hb2 (w1.heap.size + 1) (by first | assumption | omega | (simp; done) | (simp; omega)); obtain ⟨hcA2, hfA2, hxA2⟩ := hxx)); have hz2 := hb2.size; (try simp at hz2))))
          all_goals
            have hbW : Below (w1.heap.size + 1) (w1.alloc (.cells #[.float .f32 he, .float .f32 L, .float .f32 C] 26)) w2 := Below.mono (B := (w1.alloc (.cells #[.float .f32 he, .float .f32 L, .float .f32 C] 26)).heap.size) (by repeat' (first | (with_reducible exact Below.refl _ _) | (with_reducible assumption) | (with_reducible refine below_drewN ?_ _) | (with_reducible refine Below.drew ?_) | (with_reducible refine below_alloc ?_ _) | (with_reducible refine Below.setCell ?_ ?_ _) | (with_reducible refine below_then ?_ (by assumption)) | exact below_then (Below.drew (Below.refl _ _)) (by assumption) | omega | (simp; done) | (simp; omega))) (by simp)
            have hs2 := hbW.size
            rw [hW] at hs2
            go_wp2_with fail
            go_meet
            first
              | exact ⟨_, rfl, rfl, rfl, Blk.new _ _ [_, _, _], hbW.alloc hs2 _⟩
              | (have P2 : Blk w2 (w1.heap.size + 1) 26 [.float .f32 0, .float .f32 0, .float .f32 0] := by
                   have := Blk.new (w1.alloc (.cells #[.float .f32 he, .float .f32 L, .float .f32 C] 26)) 26 [.float .f32 0, .float .f32 0, .float .f32 0]
                   rw [hW] at this
                   exact Blk.below (this.drewN 1) hb2
                 exact ⟨_, rfl, rfl, rfl, Blk.set3 P2 _ _ _, ((hbW.setCell (Nat.le_refl _) _).setCell (Nat.le_refl _) _).setCell (Nat.le_refl _) _⟩)
        case rest =>
          obtain ⟨p, rfl, rfl, rfl, T13, hbc⟩ := hcut
          rw [← hW] at hbc
          have F3 := F2.below hbc
          have T10 := T10.below hbc
          have RD3 := RD2.below hbc
          have HW3 := below_then HW2 hbc
          clear F1 F2 RD1 RD2 RT HLT HW1 HW2 hbc hW
          have q0 := T10.c0; have q1 := T10.c1; have q2 := T10.c2
          go_wp2_with fail
          refine (validFuseI_any he L C _).mono ?_
          rintro e w4 ⟨rfl, hb4⟩
          rw [V1.out]
          have F4 := F3.below hb4
          have T10 := T10.below hb4
          have T13 := T13.below hb4
          have RD4 := RD3.below hb4
          have HW4 := below_then HW3 hb4
          clear F3 RD3 HW3 hb4 q0 q1 q2
          have p0 := T13.c0; have p1 := T13.c1; have p2 := T13.c2
          go_wp2_with fail
          refine (validFuseI_any hmid L C _).mono ?_
          rintro e w5 ⟨rfl, hb5⟩
          rw [V2.out]
          have F5 := F4.below hb5
          have T10 := T10.below hb5
          have T13 := T13.below hb5
          have RD5 := RD4.below hb5
          have HW5 := below_then HW4 hb5
          clear F4 RD4 HW4 hb5 p0 p1 p2
          have p0 := T13.c0; have p1 := T13.c1; have p2 := T13.c2
          have q0 := T10.c0; have q1 := T10.c1; have q2 := T10.c2
          by_cases hfirst : 0 ≤ first
          · obtain ⟨g1, g2⟩ := FF.out.1 hfirst
            subst g1
            subst g2
            obtain ⟨n1, n2, n3⟩ := vfuse_num V1.out
            have r1 := eqSelf_run n1
            have r2 := eqSelf_run n2
            have r3 := eqSelf_run n3
            go_wp2_with fail
            go_ret
            exact ⟨rfl, (by repeat' (first | (with_reducible exact Below.refl _ _) | (with_reducible assumption) | (with_reducible refine below_drewN ?_ _) | (with_reducible refine Below.drew ?_) | (with_reducible refine below_alloc ?_ _) | (with_reducible refine Below.setCell ?_ ?_ _) | (with_reducible refine below_then ?_ (by assumption)) | omega | (simp; done) | (simp; omega)))⟩
          · obtain ⟨second, e3, s1, s2⟩ := FF.out.2 (by omega)
            have E3 := Lib.hid e3
            have SS := Lib.hid (And.intro s1 s2)
            clear e3 s1 s2
            have hld : (qs.drop cut).length = 8 - cut := by rw [List.length_drop]; have := HQ.out.1; omega
            have HLD := Lib.hid hld
            have RD6 : RdF w5 (if cap = cut then some ⟨g, 0, none⟩ else some ⟨g, cut, none⟩) (qs.drop cut) := by
              split
              · have h0 : qs.drop cut = [] := List.eq_nil_of_length_eq_zero (by rw [hld]; omega)
                rw [h0]
                exact RdF.none _
              · have := RdF.drop RD5 cut
                rw [addr_add] at this
                exact this
            clear hld
            go_upto_region 16 with fail
            go_cut [15, 16, 17] (fun s15 s16 s17 wx => ∃ p2 : Nat, s15 = .int .i64 second ∧ s16 = .pointer (some ⟨p2, 0, none⟩) ∧ s17 = .bool true ∧ Blk wx p2 26 [.float .f32 he, .float .f32 L, .float .f32 C] ∧ Below w5.heap.size w5 wx)
            case first =>
              by_cases hcap : cap = cut
              · have h0 : qs.drop cut = [] := List.eq_nil_of_length_eq_zero (by rw [HLD.out]; omega)
                have E3' : Hid (runAll hmid L C half [] = (second, he, L, C, true)) := by
                  have := E3.out
                  rw [h0] at this
                  exact this
                subst hcap
                clear h0
                go_region_held (fun w' => w'.cell? ⟨p, 0, none⟩ = some (.float .f32 hmid) ∧ w'.cell? ⟨p, 1, none⟩ = some (.float .f32 L) ∧ w'.cell? ⟨p, 2, none⟩ = some (.float .f32 C))
                  (exact ⟨cell_keep (by repeat' (first | (with_reducible exact Below.refl _ _) | (with_reducible assumption) | (with_reducible refine below_drewN ?_ _) | (with_reducible refine Below.drew ?_) | (with_reducible refine below_alloc ?_ _) | (with_reducible refine Below.setCell ?_ ?_ _) | (with_reducible refine below_then ?_ (by assumption)) | exact below_then (Below.drew (Below.refl _ _)) (by assumption) | omega | (simp; done) | (simp; omega))) T13.c0, cell_keep (by repeat' (first | (with_reducible exact Below.refl _ _) | (with_reducible assumption) | (with_reducible refine below_drewN ?_ _) | (with_reducible refine Below.drew ?_) | (with_reducible refine below_alloc ?_ _) | (with_reducible refine Below.setCell ?_ ?_ _) | (with_reducible refine below_then ?_ (by assumption)) | exact below_then (Below.drew (Below.refl _ _)) (by assumption) | omega | (simp; done) | (simp; omega))) T13.c1, cell_keep (by repeat' (first | (with_reducible exact Below.refl _ _) | (with_reducible assumption) | (with_reducible refine below_drewN ?_ _) | (with_reducible refine Below.drew ?_) | (with_reducible refine below_alloc ?_ _) | (with_reducible refine Below.setCell ?_ ?_ _) | (with_reducible refine below_then ?_ (by assumption)) | exact below_then (Below.drew (Below.refl _ _)) (by assumption) | omega | (simp; done) | (simp; omega))) T13.c2⟩)
                  ((go_at_call 19; (refine (runAt_any hmid L C half _ _ 0 [] second he _ (RdF.none _) rfl E3'.out).mono ?_; rintro e w6 ⟨rfl, hb6⟩; (try (have hxx := bcell0 hb6 w5.heap.size (by first | assumption | omega | (simp; done) | (simp; omega)); obtain ⟨hcA6, hfA6, hxA6⟩ := hxx)); have hz6 := hb6.size; (try simp at hz6))))
                all_goals
                  have hbW : Below w5.heap.size w5 w6 := (by repeat' (first | (with_reducible exact Below.refl _ _) | (with_reducible assumption) | (with_reducible refine below_drewN ?_ _) | (with_reducible refine Below.drew ?_) | (with_reducible refine below_alloc ?_ _) | (with_reducible refine Below.setCell ?_ ?_ _) | (with_reducible refine below_then ?_ (by assumption)) | exact below_then (Below.drew (Below.refl _ _)) (by assumption) | omega | (simp; done) | (simp; omega)))
                  have hs6 := hbW.size
                  go_wp2_with fail
                  go_meet
                  first
                    | exact ⟨_, rfl, rfl, rfl, Blk.new _ _ [_, _, _], hbW.alloc hs6 _⟩
                    | (have P6 : Blk w6 w5.heap.size 26 [.float .f32 0, .float .f32 0, .float .f32 0] := Blk.below ((Blk.new w5 26 [.float .f32 0, .float .f32 0, .float .f32 0]).drewN 1) hb6
                       exact ⟨_, rfl, rfl, rfl, Blk.set3 P6 _ _ _, ((hbW.setCell (Nat.le_refl _) _).setCell (Nat.le_refl _) _).setCell (Nat.le_refl _) _⟩)
              · have RD6' : RdF w5 (some ⟨g, cut, none⟩) (qs.drop cut) := by rw [if_neg hcap] at RD6; exact RD6
                go_region_held (fun w' => w'.cell? ⟨p, 0, none⟩ = some (.float .f32 hmid) ∧ w'.cell? ⟨p, 1, none⟩ = some (.float .f32 L) ∧ w'.cell? ⟨p, 2, none⟩ = some (.float .f32 C))
                  (exact ⟨cell_keep (by repeat' (first | (with_reducible exact Below.refl _ _) | (with_reducible assumption) | (with_reducible refine below_drewN ?_ _) | (with_reducible refine Below.drew ?_) | (with_reducible refine below_alloc ?_ _) | (with_reducible refine Below.setCell ?_ ?_ _) | (with_reducible refine below_then ?_ (by assumption)) | exact below_then (Below.drew (Below.refl _ _)) (by assumption) | omega | (simp; done) | (simp; omega))) T13.c0, cell_keep (by repeat' (first | (with_reducible exact Below.refl _ _) | (with_reducible assumption) | (with_reducible refine below_drewN ?_ _) | (with_reducible refine Below.drew ?_) | (with_reducible refine below_alloc ?_ _) | (with_reducible refine Below.setCell ?_ ?_ _) | (with_reducible refine below_then ?_ (by assumption)) | exact below_then (Below.drew (Below.refl _ _)) (by assumption) | omega | (simp; done) | (simp; omega))) T13.c1, cell_keep (by repeat' (first | (with_reducible exact Below.refl _ _) | (with_reducible assumption) | (with_reducible refine below_drewN ?_ _) | (with_reducible refine Below.drew ?_) | (with_reducible refine below_alloc ?_ _) | (with_reducible refine Below.setCell ?_ ?_ _) | (with_reducible refine below_then ?_ (by assumption)) | exact below_then (Below.drew (Below.refl _ _)) (by assumption) | omega | (simp; done) | (simp; omega))) T13.c2⟩)
                  ((go_at_call 19; (refine (runAt_any hmid L C half _ _ (8 - cut) (qs.drop cut) second he _ (RD6'.below (by repeat' (first | (with_reducible exact Below.refl _ _) | (with_reducible assumption) | (with_reducible refine below_drewN ?_ _) | (with_reducible refine Below.drew ?_) | (with_reducible refine below_alloc ?_ _) | (with_reducible refine Below.setCell ?_ ?_ _) | (with_reducible refine below_then ?_ (by assumption)) | exact below_then (Below.drew (Below.refl _ _)) (by assumption) | omega | (simp; done) | (simp; omega)))) HLD.out E3.out).mono ?_; rintro e w6 ⟨rfl, hb6⟩; (try (have hxx := bcell0 hb6 w5.heap.size (by first | assumption | omega | (simp; done) | (simp; omega)); obtain ⟨hcA6, hfA6, hxA6⟩ := hxx)); have hz6 := hb6.size; (try simp at hz6))))
                all_goals
                  have hbW : Below w5.heap.size w5 w6 := (by repeat' (first | (with_reducible exact Below.refl _ _) | (with_reducible assumption) | (with_reducible refine below_drewN ?_ _) | (with_reducible refine Below.drew ?_) | (with_reducible refine below_alloc ?_ _) | (with_reducible refine Below.setCell ?_ ?_ _) | (with_reducible refine below_then ?_ (by assumption)) | exact below_then (Below.drew (Below.refl _ _)) (by assumption) | omega | (simp; done) | (simp; omega)))
                  have hs6 := hbW.size
                  go_wp2_with fail
                  go_meet
                  first
                    | exact ⟨_, rfl, rfl, rfl, Blk.new _ _ [_, _, _], hbW.alloc hs6 _⟩
                    | (have P6 : Blk w6 w5.heap.size 26 [.float .f32 0, .float .f32 0, .float .f32 0] := Blk.below ((Blk.new w5 26 [.float .f32 0, .float .f32 0, .float .f32 0]).drewN 1) hb6
                       exact ⟨_, rfl, rfl, rfl, Blk.set3 P6 _ _ _, ((hbW.setCell (Nat.le_refl _) _).setCell (Nat.le_refl _) _).setCell (Nat.le_refl _) _⟩)
            case rest =>
              obtain ⟨p2', rfl, rfl, rfl, T16, hbc⟩ := hcut
              have F7 := F5.below hbc
              have T10 := T10.below hbc
              have RD7 := RD5.below hbc
              have HW7 := below_then HW5 hbc
              clear F5 T13 RD5 RD6 HW5 hbc p0 p1 p2 q0 q1 q2
              have q0 := T10.c0; have q1 := T10.c1; have q2 := T10.c2
              have p0 := T16.c0; have p1 := T16.c1; have p2 := T16.c2
              have f0 := F7.c0; have f1 := F7.c1; have f2 := F7.c2
              obtain ⟨n1, n2, n3⟩ := vfuse_num V1.out
              have r1 := eqSelf_run n1
              have r2 := eqSelf_run n2
              have r3 := eqSelf_run n3
              obtain ⟨a, ha, hqa⟩ := HQ.out.2 (ge qs 0) (by rw [ge_eq (by have := HQ.out.1; omega)]; exact List.getElem_mem _)
              obtain ⟨hot, bl, hh1, hh2, hh3⟩ := hot_plain (a := a) hn hl ha
              rw [HE.out.1, HE.out.2.1, ← hqa] at hh1
              rw [HE.out.1] at hh2
              rw [HE.out.2.1] at hh3
              have HH := Lib.hid (And.intro hh1 (And.intro hh2 hh3))
              obtain ⟨ad0, ead, hl0⟩ := RD7.at_ (i := 0) (by have := HQ.out.1; omega)
              injection ead with ead
              subst ead
              rw [Addr.add_zero'] at hl0
              clear hh1 hh2 hh3 hqa
              have hs : (0 ≤ second ∧ at' = second + cut) ∨ (second < 0 ∧ at' = -1) := by
                rcases Int.lt_or_le second 0 with h | h
                · exact .inr ⟨h, SS.out.2 h⟩
                · exact .inl ⟨h, SS.out.1 h⟩
              rcases hs with ⟨hsec, rfl⟩ | ⟨hsec, rfl⟩
              all_goals
                go_upto_region 19 with fail
                go_cut [18, 19, 20] (fun s18 s19 s20 wx => ∃ p3 : Nat, s18 = .pointer (some ⟨p3, 0, none⟩) ∧ s19 = .bool bl ∧ s20 = .bool true ∧ Blk wx p3 26 [.float .f32 hot, .float .f32 L, .float .f32 0] ∧ Below wc.heap.size wc wx)
                case first =>
                  go_region_held (fun w' => w'.cell? ⟨w.heap.size, 0, none⟩ = some (.float .f32 H) ∧ w'.cell? ⟨w.heap.size, 1, none⟩ = some (.float .f32 L) ∧ w'.cell? ⟨g, 0, none⟩ = some (.float .f32 (ge qs 0)))
                    (exact ⟨cell_keep (by repeat' (first | (with_reducible exact Below.refl _ _) | (with_reducible assumption) | (with_reducible refine below_drewN ?_ _) | (with_reducible refine Below.drew ?_) | (with_reducible refine below_alloc ?_ _) | (with_reducible refine Below.setCell ?_ ?_ _) | (with_reducible refine below_then ?_ (by assumption)) | exact below_then (Below.drew (Below.refl _ _)) (by assumption) | omega | (simp; done) | (simp; omega))) f0, cell_keep (by repeat' (first | (with_reducible exact Below.refl _ _) | (with_reducible assumption) | (with_reducible refine below_drewN ?_ _) | (with_reducible refine Below.drew ?_) | (with_reducible refine below_alloc ?_ _) | (with_reducible refine Below.setCell ?_ ?_ _) | (with_reducible refine below_then ?_ (by assumption)) | exact below_then (Below.drew (Below.refl _ _)) (by assumption) | omega | (simp; done) | (simp; omega))) f1, cell_keep (by repeat' (first | (with_reducible exact Below.refl _ _) | (with_reducible assumption) | (with_reducible refine below_drewN ?_ _) | (with_reducible refine Below.drew ?_) | (with_reducible refine below_alloc ?_ _) | (with_reducible refine Below.setCell ?_ ?_ _) | (with_reducible refine below_then ?_ (by assumption)) | exact below_then (Below.drew (Below.refl _ _)) (by assumption) | omega | (simp; done) | (simp; omega))) hl0⟩)
                    ((go_at_call 20; (refine (heatAt_any H L 0 (ge qs 0) half hot bl _ HH.out.1).mono ?_; rintro e w8 ⟨rfl, hb8⟩; (try (have hxx := bcell0 hb8 wc.heap.size (by first | assumption | omega | (simp; done) | (simp; omega)); obtain ⟨hcA8, hfA8, hxA8⟩ := hxx)); have hz8 := hb8.size; (try simp at hz8))))
                  all_goals
                    have hbW : Below wc.heap.size wc w8 := (by repeat' (first | (with_reducible exact Below.refl _ _) | (with_reducible assumption) | (with_reducible refine below_drewN ?_ _) | (with_reducible refine Below.drew ?_) | (with_reducible refine below_alloc ?_ _) | (with_reducible refine Below.setCell ?_ ?_ _) | (with_reducible refine below_then ?_ (by assumption)) | exact below_then (Below.drew (Below.refl _ _)) (by assumption) | omega | (simp; done) | (simp; omega)))
                    have hs8 := hbW.size
                    go_wp2_with fail
                    go_meet
                    first
                      | exact ⟨_, rfl, rfl, rfl, Blk.new _ _ [_, _, _], hbW.alloc hs8 _⟩
                      | (have P8 : Blk w8 wc.heap.size 26 [.float .f32 0, .float .f32 0, .float .f32 0] := Blk.below ((Blk.new wc 26 [.float .f32 0, .float .f32 0, .float .f32 0]).drewN 1) hb8
                         exact ⟨_, rfl, rfl, rfl, Blk.set3 P8 _ _ _, ((hbW.setCell (Nat.le_refl _) _).setCell (Nat.le_refl _) _).setCell (Nat.le_refl _) _⟩)
                case rest =>
                  obtain ⟨p3, rfl, rfl, rfl, T18, hbd⟩ := hcut
                  have F9 := F7.below hbd
                  have HW9 := below_then HW7 hbd
                  clear F7 RD7 HW7 hbd q0 q1 q2 p0 p1 p2 f0 f1 f2 hl0 T10 T16
                  have t0 := T18.c0
                  have f0 := F9.c0; have f1 := F9.c1
                  have h4 : (cf .f32 hot H == some .gt || cf .f32 hot H == some .eq) = true := HH.out.2.1
                  have h5 : (cf .f32 hot L == some .gt || cf .f32 hot L == some .eq) = bl := HH.out.2.2
                  go_wp2_with fail
                  go_ret
                  exact ⟨rfl, (by repeat' (first | (with_reducible exact Below.refl _ _) | (with_reducible assumption) | (with_reducible refine below_drewN ?_ _) | (with_reducible refine Below.drew ?_) | (with_reducible refine below_alloc ?_ _) | (with_reducible refine Below.setCell ?_ ?_ _) | (with_reducible refine below_then ?_ (by assumption)) | omega | (simp; done) | (simp; omega)))⟩
end Go.Proofs.Ytdkkdohbmpjfdaa
