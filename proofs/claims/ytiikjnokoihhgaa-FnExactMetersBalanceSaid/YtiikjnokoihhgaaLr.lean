/-
  MetersBalance of the reference.
-/
import Derived.Test.YtiikjnokoihhgaaLq
import Derived.Deep.QuietTactic
import Derived.BigQuiet
namespace Go.Proofs.Ytiikjnokoihhgaa
open Go.RowKit Go.Fl Go.Lb

theorem l09MeterQ (p o : Nat) (A : Option Addr) (c : Nat) (z : Int) (xs : List Int) (w : World) (h0 : w.cell? ⟨p, o, none⟩ = some (.int .i64 z)) (h1 : w.cell? ⟨p, o + 1, none⟩ = some (.slice A xs.length c)) (HX : RdI w A xs) :
    Calls Try.prog 38 #[.pointer (some ⟨p, o, none⟩)] w fun e w' => e = .returned (.bool (validM z xs)) ∧ ∃ n, w' = w.drewN n :=
  (l09Meter_any p o A c z xs w h0 h1 HX).mono fun _ _ ⟨he, hw⟩ => ⟨he, 0, hw.symm⟩
set_option maxRecDepth 100000 in
set_option maxHeartbeats 4000000 in
theorem balS_any (A : Option Addr) (c e0 gB : Nat) (z : Int) (xs : List Int) (ms : List Mt) (w : World) (HX : RdI w A xs) (HM : RdM w (some ⟨gB, 0, none⟩) ms) :
    Calls Try.prog 30 #[meterV z A xs.length c, (.slice (some ⟨gB, 0, none⟩) ms.length e0)] w (BalRes w z xs ms) := by
  have hml := HM.1
  cases hv : validM z xs with
  | false =>
    have HN := Lib.hid (balOk_a (ms := ms) hv)
    have HV := Lib.hid hv
    clear hv
    go_enter Try.func30, Try.ntmps30
    go_wp2_with fail
    refine (l09Meter_any _ 0 A c z xs _ (by go_simp) (by go_simp) (HX.below (by repeat' (first | (with_reducible exact Below.refl _ _) | (with_reducible assumption) | (with_reducible refine below_drewN ?_ _) | (with_reducible refine Below.drew ?_) | (with_reducible refine below_alloc ?_ _) | (with_reducible refine Below.setCell ?_ ?_ _) | (with_reducible refine below_then ?_ (by assumption)) | omega | (simp; done) | (simp; omega))))).mono ?_
    rintro r w' ⟨rfl, rfl⟩
    rw [HV.out]
    go_wp2_with fail
    exact bodyPost_ret (v := .tuple #[.slice none 0 0, .bool false]) (by simp only [results, Try.results30]; go_simp) rfl (balRes_no HN.out (by repeat' (first | (with_reducible exact Below.refl _ _) | (with_reducible assumption) | (with_reducible refine below_drewN ?_ _) | (with_reducible refine Below.drew ?_) | (with_reducible refine below_alloc ?_ _) | (with_reducible refine Below.setCell ?_ ?_ _) | (with_reducible refine below_then ?_ (by assumption)) | omega | (simp; done) | (simp; omega))))
  | true =>
    have HV := Lib.hid hv
    by_cases hn : 256 < ms.length
    · have hni : 256 < (ms.length : Int) := by omega
      have HN := Lib.hid (balOk_b (z := z) (xs := xs) hn)
      clear hv
      go_enter Try.func30, Try.ntmps30
      go_wp2_with fail
      refine (l09Meter_any _ 0 A c z xs _ (by go_simp) (by go_simp) (HX.below (by repeat' (first | (with_reducible exact Below.refl _ _) | (with_reducible assumption) | (with_reducible refine below_drewN ?_ _) | (with_reducible refine Below.drew ?_) | (with_reducible refine below_alloc ?_ _) | (with_reducible refine Below.setCell ?_ ?_ _) | (with_reducible refine below_then ?_ (by assumption)) | omega | (simp; done) | (simp; omega))))).mono ?_
      rintro r w' ⟨rfl, rfl⟩
      rw [HV.out]
      go_wp2_with fail
      exact bodyPost_ret (v := .tuple #[.slice none 0 0, .bool false]) (by simp only [results, Try.results30]; go_simp) rfl (balRes_no HN.out (by repeat' (first | (with_reducible exact Below.refl _ _) | (with_reducible assumption) | (with_reducible refine below_drewN ?_ _) | (with_reducible refine Below.drew ?_) | (with_reducible refine below_alloc ?_ _) | (with_reducible refine Below.setCell ?_ ?_ _) | (with_reducible refine below_then ?_ (by assumption)) | omega | (simp; done) | (simp; omega))))
    · have hni : ¬ 256 < (ms.length : Int) := by omega
      have hn' : ms.length ≤ 256 := by omega
      obtain ⟨d, rfl, hd1, hd, hnx, hr⟩ := validM_yes hv
      have HRD := Lib.hid hr
      have HSM := Lib.hid (uses_small hd hr)
      clear hv hr
      go_enter Try.func30, Try.ntmps30
      go_wp2_with fail
      refine (l09Meter_any _ 0 A c d xs _ (by go_simp) (by go_simp) (HX.below (by repeat' (first | (with_reducible exact Below.refl _ _) | (with_reducible assumption) | (with_reducible refine below_drewN ?_ _) | (with_reducible refine Below.drew ?_) | (with_reducible refine below_alloc ?_ _) | (with_reducible refine Below.setCell ?_ ?_ _) | (with_reducible refine below_then ?_ (by assumption)) | omega | (simp; done) | (simp; omega))))).mono ?_
      rintro r w' ⟨rfl, rfl⟩
      rw [HV.out]
      have KB := Blk.new w 27 [.int .i64 (d : Int), .slice A xs.length c]
      generalize hw1 : w.alloc (.cells #[.int .i64 (d : Int), .slice A xs.length c] 27) = w1
      have hb1' : Below w.heap.size w w1 := by rw [← hw1]; exact (by repeat' (first | (with_reducible exact Below.refl _ _) | (with_reducible assumption) | (with_reducible refine below_drewN ?_ _) | (with_reducible refine Below.drew ?_) | (with_reducible refine below_alloc ?_ _) | (with_reducible refine Below.setCell ?_ ?_ _) | (with_reducible refine below_then ?_ (by assumption)) | omega | (simp; done) | (simp; omega)))
      have HX1 := HX.below hb1'
      have K1 : Blk w1 w.heap.size 27 [.int .i64 (d : Int), .slice A xs.length c] := by rw [← hw1]; exact KB
      have k0 := K1.c0
      have k1 := K1.c1
      have kl := K1.lt
      clear hw1 KB
      go_wp2_with fail
      refine (l09Uses_any w.heap.size 0 d A c xs _ k0 k1 HX1 hd HRD.out hnx).mono ?_
      rintro e w2 ⟨v, rfl, HO, hb2⟩
      obtain ⟨os, hos⟩ : ∃ os, uses d xs = os := ⟨_, rfl⟩
      have hol : os.length = xs.length - 1 := by rw [← hos]; exact uses_length d xs
      rw [hos] at HO HSM
      have HOS := Lib.hid (And.intro hos hol)
      have HW2 := below_then hb1' hb2
      have K2 := K1.below hb2
      have HO2 : OwnI w2 (w.heap.size + 1) v os := HO.mono (by omega)
      have HIN : Hid (InR v 0 w2.heap.size) := fun k hk => ⟨Nat.zero_le _, (HO.lt k hk).2⟩
      have HBW : Hid (∀ k, k ≤ ms.length → (∀ j, j < k → validM (gm ms j).1 (gm ms j).2 = true ∧ (gm ms j).2.length = xs.length) → within (((k : Int) + 1) * 1000000000) (balAt os ms k)) := fun k hk hf => by
        rw [← hos]
        exact balAt_within (n := xs.length) (by rw [hos]; exact HSM.out) k hk hf rfl
      have hb02 := hb2.size
      clear hos hol HO hb1' hb2 K1 k0 k1 HX1
      go_wp2_with fail
      go_loopw [20] (fun kv wr => ∃ k : Nat, k ≤ ms.length ∧ kv = .int .i64 k ∧ OwnI wr (w.heap.size + 1) v (balAt os ms k) ∧ Below w.heap.size w wr ∧ Blk wr w.heap.size 27 [.int .i64 (d : Int), .slice A xs.length c] ∧ w2.heap.size ≤ wr.heap.size ∧ Hid (∀ j, j < k → fitM xs.length (gm ms j) = true)) (fun kv _ => ms.length - (intOf kv).toNat)
      case atStart => exact ⟨0, Nat.zero_le _, rfl, HO2, HW2, K2, Nat.le_refl _, fun j hj => absurd hj (by omega)⟩
      case round =>
        obtain ⟨k, hk, rfl, HO, HW, HK, hsz, hall⟩ := hrel
        clear HO2 HW2 K2
        by_cases hlt : k < ms.length
        · have hki : (k : Int) < ms.length := by omega
          obtain ⟨ad, B', d', ead, hc1, hc2, HJ⟩ := (HM.below HW).2 k hlt
          injection ead with ead
          subst ead
          rw [addr_add] at hc1 hc2
          have HFN : Hid (fitM xs.length (gm ms k) = false → balOk d xs ms = false) := fun h => balOk_c hlt h
          have HST := Lib.hid (balAt_step (os := os) hlt)
          obtain ⟨ys, hy⟩ : ∃ ys, (gm ms k).2 = ys := ⟨_, rfl⟩
          obtain ⟨zk, hz⟩ : ∃ zk, (gm ms k).1 = zk := ⟨_, rfl⟩
          rw [hy] at hc2 HJ
          rw [hz] at hc1
          have HYZ := Lib.hid (And.intro hy hz)
          have hgm : gm ms k = (zk, ys) := Prod.ext hz hy
          rw [hgm] at HFN HST
          clear hy hz
          cases hvk : validM zk ys with
          | false =>
            have HN := Lib.hid (HFN.out (fitM_a hvk))
            have HVK := Lib.hid hvk
            clear hvk hgm
            go_wp2_with fail
            have hvb := HVK.out
            go_quiet ((go_at_call 38; first | exact quiet_add (l09MeterQ gB (k * 2) B' d' zk ys _ (by exact hc1) (by exact hc2) (HJ.below (by repeat' (first | (with_reducible exact Below.refl _ _) | (with_reducible assumption) | (with_reducible refine below_drewN ?_ _) | (with_reducible refine Below.drew ?_) | (with_reducible refine below_alloc ?_ _) | (with_reducible refine Below.setCell ?_ ?_ _) | (with_reducible refine below_then ?_ (by assumption)) | exact below_then (Below.drew (Below.refl _ _)) (by assumption) | omega | (simp; done) | (simp; omega))))) | exact Calls.quiet_of (l09MeterQ gB (k * 2) B' d' zk ys _ (by exact hc1) (by exact hc2) (HJ.below (by repeat' (first | (with_reducible exact Below.refl _ _) | (with_reducible assumption) | (with_reducible refine below_drewN ?_ _) | (with_reducible refine Below.drew ?_) | (with_reducible refine below_alloc ?_ _) | (with_reducible refine Below.setCell ?_ ?_ _) | (with_reducible refine below_then ?_ (by assumption)) | exact below_then (Below.drew (Below.refl _ _)) (by assumption) | omega | (simp; done) | (simp; omega))))) | exact Calls.quiet_of_same (l09Meter_any gB (k * 2) B' d' zk ys _ (by exact hc1) (by exact hc2) (HJ.below (by repeat' (first | (with_reducible exact Below.refl _ _) | (with_reducible assumption) | (with_reducible refine below_drewN ?_ _) | (with_reducible refine Below.drew ?_) | (with_reducible refine below_alloc ?_ _) | (with_reducible refine Below.setCell ?_ ?_ _) | (with_reducible refine below_then ?_ (by assumption)) | exact below_then (Below.drew (Below.refl _ _)) (by assumption) | omega | (simp; done) | (simp; omega)))))))
            go_wp2_with fail
            exact bodyPost_ret (v := .tuple #[.slice none 0 0, .bool false]) (by simp only [results, Try.results30]; go_simp) rfl (balRes_no HN.out (by repeat' (first | (with_reducible exact Below.refl _ _) | (with_reducible assumption) | (with_reducible refine below_drewN ?_ _) | (with_reducible refine Below.drew ?_) | (with_reducible refine below_alloc ?_ _) | (with_reducible refine Below.setCell ?_ ?_ _) | (with_reducible refine below_then ?_ (by assumption)) | omega | (simp; done) | (simp; omega))))
          | true =>
            have HVK := Lib.hid hvk
            by_cases hyl : ys.length = xs.length
            · have hne : ((ys.length : Int) != (xs.length : Int)) = false := by rw [hyl]; simp
              obtain ⟨dk, rfl, _, hdk, hnk, hrk⟩ := validM_yes hvk
              have HRK := Lib.hid hrk
              have HYL := Lib.hid hyl
              have HFY : Hid (fitM xs.length (gm ms k) = true) := by
                show _ = _
                rw [hgm]
                unfold fitM
                rw [hvk]
                simpa using hyl
              clear hvk hgm hyl hrk
              have q1 := HK.c1; have ql := HK.lt
              have hvb := HVK.out
              go_wp2_with fail
              go_quiet ((go_at_call 38; first | exact quiet_add (l09MeterQ gB (k * 2) B' d' dk ys _ (by exact hc1) (by exact hc2) (HJ.below (by repeat' (first | (with_reducible exact Below.refl _ _) | (with_reducible assumption) | (with_reducible refine below_drewN ?_ _) | (with_reducible refine Below.drew ?_) | (with_reducible refine below_alloc ?_ _) | (with_reducible refine Below.setCell ?_ ?_ _) | (with_reducible refine below_then ?_ (by assumption)) | exact below_then (Below.drew (Below.refl _ _)) (by assumption) | omega | (simp; done) | (simp; omega))))) | exact Calls.quiet_of (l09MeterQ gB (k * 2) B' d' dk ys _ (by exact hc1) (by exact hc2) (HJ.below (by repeat' (first | (with_reducible exact Below.refl _ _) | (with_reducible assumption) | (with_reducible refine below_drewN ?_ _) | (with_reducible refine Below.drew ?_) | (with_reducible refine below_alloc ?_ _) | (with_reducible refine Below.setCell ?_ ?_ _) | (with_reducible refine below_then ?_ (by assumption)) | exact below_then (Below.drew (Below.refl _ _)) (by assumption) | omega | (simp; done) | (simp; omega))))) | exact Calls.quiet_of_same (l09Meter_any gB (k * 2) B' d' dk ys _ (by exact hc1) (by exact hc2) (HJ.below (by repeat' (first | (with_reducible exact Below.refl _ _) | (with_reducible assumption) | (with_reducible refine below_drewN ?_ _) | (with_reducible refine Below.drew ?_) | (with_reducible refine below_alloc ?_ _) | (with_reducible refine Below.setCell ?_ ?_ _) | (with_reducible refine below_then ?_ (by assumption)) | exact below_then (Below.drew (Below.refl _ _)) (by assumption) | omega | (simp; done) | (simp; omega)))))))
              clear hvb
              go_wp2_with fail
              refine (l09Uses_any gB (k * 2) dk B' d' ys _ (by exact hc1) (by exact hc2) (HJ.below (by repeat' (first | (with_reducible exact Below.refl _ _) | (with_reducible assumption) | (with_reducible refine below_drewN ?_ _) | (with_reducible refine Below.drew ?_) | (with_reducible refine below_alloc ?_ _) | (with_reducible refine Below.setCell ?_ ?_ _) | (with_reducible refine below_then ?_ (by assumption)) | exact below_then (Below.drew (Below.refl _ _)) (by assumption) | omega | (simp; done) | (simp; omega)))) hdk HRK.out hnk).mono ?_
              rintro e w4 ⟨vU, rfl, HU, hb4⟩
              have hbd : Below wr.heap.size wr w4 := (by repeat' (first | (with_reducible exact Below.refl _ _) | (with_reducible assumption) | (with_reducible refine below_drewN ?_ _) | (with_reducible refine Below.drew ?_) | (with_reducible refine below_alloc ?_ _) | (with_reducible refine Below.setCell ?_ ?_ _) | (with_reducible refine below_then ?_ (by assumption)) | exact below_then (Below.drew (Below.refl _ _)) (by assumption) | omega | (simp; done) | (simp; omega)))
              have HW4 := below_then HW hbd
              have HO4 := HO.below hbd
              have HK4 := HK.below hbd
              have hs4 := hbd.size
              have HNE : Hid (vU.ownBlock = none ∨ vU.ownBlock ≠ v.ownBlock) := InR.apart (lo := wr.heap.size) (hi := w4.heap.size) (fun j hj => by have h := HU.lt j hj; exact ⟨h.1, h.2⟩) HIN.out (.inr (by omega))
              obtain ⟨us, hus⟩ : ∃ us, uses dk ys = us := ⟨_, rfl⟩
              have HSU := Lib.hid (uses_small hdk HRK.out)
              have hul : us.length = os.length := by rw [← hus, uses_length, HYL.out, HOS.out.2]
              have hub : us.length ≤ 256 := by rw [← hus]; exact uses_le dk hnk
              rw [hus] at HU HSU
              have HUU : Hid (uses (dk : Int).toNat ys = us) := hus
              obtain ⟨Lk, hLk⟩ : ∃ Lk, balAt os ms k = Lk := ⟨_, rfl⟩
              have hLl : Lk.length = os.length := by rw [← hLk]; exact balAt_length _ _ _ (by omega)
              have hwt : within (((k : Int) + 1) * 1000000000) Lk := by
                rw [← hLk]
                exact HBW.out k (by omega) (fun j hj => fitM_yes (hall.out j hj))
              have HWT := Lib.hid hwt
              rw [hLk] at HO4 HST
              have HLU : Hid (Lk.length = us.length) := hLl.trans hul.symm
              have hlu1 : Lk.length ≤ us.length := by omega
              have hlu2 : us.length ≤ Lk.length := by omega
              have HOL := Lib.hid hLl
              obtain ⟨AU, cU, rfl, _⟩ := HU.rdI
              have hu3 : OwnI w4 wr.heap.size (.slice AU us.length cU) us := HU
              clear hus hul hLk hLl hwt HO HK HW q1 ql hb4 hbd HJ hc1 hc2 HU
              go_wp2_with fail
              go_loopw [46] (fun jv wi => ∃ j : Nat, j ≤ us.length ∧ jv = .int .i64 j ∧ OwnI wi (w.heap.size + 1) v (takeOff Lk us j) ∧ OwnI wi (w.heap.size + 1) (.slice AU us.length cU) us ∧ Below w.heap.size w wi ∧ Blk wi w.heap.size 27 [.int .i64 (d : Int), .slice A xs.length c] ∧ w2.heap.size ≤ wi.heap.size) (fun jv _ => us.length - (intOf jv).toNat)
              case atStart => exact ⟨0, Nat.zero_le _, rfl, by rw [takeOff_zero]; exact HO4, hu3.mono (by omega), HW4, HK4, by omega⟩
              case round =>
                obtain ⟨j, hj, rfl, HOi, HUi, HWi, HKi, hszi⟩ := hrel
                clear HO4 hu3 HW4 HK4
                by_cases hjl : j < us.length
                · have hji : (j : Int) < us.length := by omega
                  have hjL : j < Lk.length := by omega
                  obtain ⟨au, rfl, hcu⟩ := (OwnI.rd HUi).at_ hjl
                  rcases HOi.shape with ⟨_, hnil⟩ | ⟨g, cap, tl', hvv, hgB, _, _, _, _⟩
                  · exfalso
                    have := congrArg List.length hnil
                    rw [takeOff_length] at this
                    simp at this
                    rw [this] at hjL
                    simp at hjL
                  · rw [takeOff_length] at hvv
                    subst hvv
                    have hjg : j < (takeOff Lk us j).length := by rw [takeOff_length]; exact hjL
                    obtain ⟨o0, oz⟩ := OwnI.cellAt HOi hjg
                    have hgj : gi (takeOff Lk us j) j = gi Lk j := by rw [takeOff_at hjL, if_neg (by omega)]
                    rw [hgj] at o0
                    have HS2 := OwnI.setAt HOi hjg (gi Lk j - gi us j)
                    rw [takeOff_step] at HS2
                    have HU2 := owns_set (j := j) (u := iv (gi Lk j - gi us j)) HUi (by have h := HNE.out; simpa [Value.ownBlock] using h : (Value.slice (some au) us.length cU).ownBlock = none ∨ (Value.slice (some au) us.length cU).ownBlock ≠ some g)
                    have HW2' := HWi.setCell (p := ⟨g, j, none⟩) (show w.heap.size ≤ g by omega) (iv (gi Lk j - gi us j))
                    have HK2 := HKi.other (a := ⟨g, j, none⟩) (show g ≠ w.heap.size by omega) (iv (gi Lk j - gi us j))
                    have b1 := HWT.out j hjL
                    have b2 := HSU.out j hjl
                    have hjLi : (j : Int) < Lk.length := by omega
                    have hsz2 : w2.heap.size ≤ (wr.setCell ⟨g, j, none⟩ (iv (gi Lk j - gi us j))).heap.size := by simpa using hszi
                    obtain ⟨b3, b4⟩ := b1
                    obtain ⟨b5, b6⟩ := b2
                    have hk256 : k ≤ 256 := by omega
                    clear HOi HUi HWi HKi hgj hjg
                    go_wp2_with fail
                    go_region_with (fail)
                    all_goals
                      go_wp2_with fail
                      go_roundw
                      case rel => exact ⟨j + 1, by omega, by go_num, HS2, HU2, HW2'.drew, HK2, hsz2⟩
                      case measure => simp [intOf]; omega
                · obtain rfl : j = us.length := by omega
                  have HST2 : Hid (takeOff Lk us us.length = balAt os ms (k + 1)) := by
                    show _ = _
                    rw [HST.out]
                    show takeOff Lk us us.length = takeOff Lk (uses (dk : Int).toNat ys) Lk.length
                    rw [HUU.out, HLU.out]
                  rw [HST2.out] at HOi
                  go_wp2_with fail
                  go_roundw
                  case rel =>
                    refine ⟨k + 1, by omega, by go_num, HOi, HWi, HKi, hszi, fun i hi => ?_⟩
                    rcases Nat.lt_or_ge i k with h | h
                    · exact hall.out i h
                    · obtain rfl : i = k := by omega
                      exact HFY.out
                  case measure => simp [intOf]; omega
            · have hne : ((ys.length : Int) != (xs.length : Int)) = true := by simp; omega
              have HN := Lib.hid (HFN.out (fitM_b hyl))
              clear hvk hgm
              have q1 := HK.c1; have ql := HK.lt
              have hvb := HVK.out
              go_wp2_with fail
              go_quiet ((go_at_call 38; first | exact quiet_add (l09MeterQ gB (k * 2) B' d' zk ys _ (by exact hc1) (by exact hc2) (HJ.below (by repeat' (first | (with_reducible exact Below.refl _ _) | (with_reducible assumption) | (with_reducible refine below_drewN ?_ _) | (with_reducible refine Below.drew ?_) | (with_reducible refine below_alloc ?_ _) | (with_reducible refine Below.setCell ?_ ?_ _) | (with_reducible refine below_then ?_ (by assumption)) | exact below_then (Below.drew (Below.refl _ _)) (by assumption) | omega | (simp; done) | (simp; omega))))) | exact Calls.quiet_of (l09MeterQ gB (k * 2) B' d' zk ys _ (by exact hc1) (by exact hc2) (HJ.below (by repeat' (first | (with_reducible exact Below.refl _ _) | (with_reducible assumption) | (with_reducible refine below_drewN ?_ _) | (with_reducible refine Below.drew ?_) | (with_reducible refine below_alloc ?_ _) | (with_reducible refine Below.setCell ?_ ?_ _) | (with_reducible refine below_then ?_ (by assumption)) | exact below_then (Below.drew (Below.refl _ _)) (by assumption) | omega | (simp; done) | (simp; omega))))) | exact Calls.quiet_of_same (l09Meter_any gB (k * 2) B' d' zk ys _ (by exact hc1) (by exact hc2) (HJ.below (by repeat' (first | (with_reducible exact Below.refl _ _) | (with_reducible assumption) | (with_reducible refine below_drewN ?_ _) | (with_reducible refine Below.drew ?_) | (with_reducible refine below_alloc ?_ _) | (with_reducible refine Below.setCell ?_ ?_ _) | (with_reducible refine below_then ?_ (by assumption)) | exact below_then (Below.drew (Below.refl _ _)) (by assumption) | omega | (simp; done) | (simp; omega)))))))
              go_wp2_with fail
              exact bodyPost_ret (v := .tuple #[.slice none 0 0, .bool false]) (by simp only [results, Try.results30]; go_simp) rfl (balRes_no HN.out (by repeat' (first | (with_reducible exact Below.refl _ _) | (with_reducible assumption) | (with_reducible refine below_drewN ?_ _) | (with_reducible refine Below.drew ?_) | (with_reducible refine below_alloc ?_ _) | (with_reducible refine Below.setCell ?_ ?_ _) | (with_reducible refine below_then ?_ (by assumption)) | omega | (simp; done) | (simp; omega))))
        · obtain rfl : k = ms.length := by omega
          have HOK := Lib.hid (balOk_yes HV.out hn' hall.out)
          have hres : OwnI wr w.heap.size v (balR d xs ms) := by
            rw [balR_yes HOK.out, HOS.out.1]
            exact HO.mono (by omega)
          have HRES : Hid (BalRes w d xs ms (.returned (.tuple #[v, .bool true])) wr) := ⟨v, by rw [HOK.out], hres, HW⟩
          clear HO HW HK hres
          go_wp2_with fail
          exact bodyPost_ret (v := .tuple #[v, .bool true]) (by simp only [results, Try.results30]; go_simp) rfl HRES.out
end Go.Proofs.Ytiikjnokoihhgaa
