/-
  QuietMeters of the reference.
-/
import Derived.Test.YtiikjnokoihhgaaQi
namespace Go.Proofs.Ytiikjnokoihhgaa
open Go.RowKit Go.Fl Go.Lb

set_option maxRecDepth 100000 in
set_option maxHeartbeats 4000000 in
theorem quietS_any (gB e0 sh : Nat) (ms : List Mt) (w : World) (HM : RdM w (some ⟨gB, 0, none⟩) ms) :
    Calls Try.prog 35 #[.slice (some ⟨gB, 0, none⟩) ms.length e0, .float .f32 sh] w (QuRes w sh ms) := by
  have hml := HM.1
  by_cases hn : 256 < ms.length
  · have hni : 256 < (ms.length : Int) := by omega
    have HN := Lib.hid (quOk_a (sh := sh) hn)
    go_enter Try.func35, Try.ntmps35
    go_wp2_with fail
    exact bodyPost_ret (v := .tuple #[.slice none 0 0, .bool false]) (by simp only [results, Try.results35]; go_simp) rfl (quRes_no HN.out (by repeat' (first | (with_reducible exact Below.refl _ _) | (with_reducible assumption) | (with_reducible refine below_drewN ?_ _) | (with_reducible refine Below.drew ?_) | (with_reducible refine below_alloc ?_ _) | (with_reducible refine Below.setCell ?_ ?_ _) | (with_reducible refine below_then ?_ (by assumption)) | omega | (simp; done) | (simp; omega))))
  have hni : ¬ 256 < (ms.length : Int) := by omega
  have hn' : ms.length ≤ 256 := by omega
  cases hf : fin sh with
  | false =>
    have HN := Lib.hid (quOk_b (ms := ms) hf)
    have HF := Lib.hid hf
    clear hf
    go_enter Try.func35, Try.ntmps35
    go_wp2_with fail
    refine (l01Finite_any sh _).mono ?_
    rintro e w' ⟨rfl, n, rfl⟩
    rw [HF.out]
    go_wp2_with fail
    exact bodyPost_ret (v := .tuple #[.slice none 0 0, .bool false]) (by simp only [results, Try.results35]; go_simp) rfl (quRes_no HN.out (by repeat' (first | (with_reducible exact Below.refl _ _) | (with_reducible assumption) | (with_reducible refine below_drewN ?_ _) | (with_reducible refine Below.drew ?_) | (with_reducible refine below_alloc ?_ _) | (with_reducible refine Below.setCell ?_ ?_ _) | (with_reducible refine below_then ?_ (by assumption)) | omega | (simp; done) | (simp; omega))))
  | true =>
    have HF := Lib.hid hf
    have hnn := fin_num hf
    clear hf
    obtain ⟨i0, hI⟩ := info_parts infoI64
    have HI := Lib.hid hI
    clear hI
    go_enter Try.func35, Try.ntmps35
    go_wp2_with fail
    refine (l01Finite_any sh _).mono ?_
    rintro e w' ⟨rfl, n0, rfl⟩
    rw [HF.out]
    go_wp2_with fail
    have HO1 : OwnI (w.alloc (.cells #[] 2)) w.heap.size (.slice (some ⟨w.heap.size, 0, none⟩) 0 0) [] :=
      OwnI.of (xs := []) (ys := []) (Nat.le_refl _) (Blk.new w 2 []) (by simp) (by unfold maxLen; omega) (by simp)
    go_loopw [6, 22] (fun vv kv wr => ∃ (k : Nat) (v : Value) (qs : List Int), k ≤ ms.length ∧ kv = .int .i64 k ∧ v = vv ∧ OwnI wr w.heap.size v qs ∧ Below w.heap.size w wr ∧ w.heap.size < wr.heap.size ∧ Hid (qs.length ≤ k ∧ qs = quietAt sh ms k ∧ ∀ j, j < k → okMeter (gm ms j) = true)) (fun _ kv _ => ms.length - (intOf kv).toNat)
    case atStart => exact ⟨0, _, [], Nat.zero_le _, rfl, rfl, HO1, (by repeat' (first | (with_reducible exact Below.refl _ _) | (with_reducible assumption) | (with_reducible refine below_drewN ?_ _) | (with_reducible refine Below.drew ?_) | (with_reducible refine below_alloc ?_ _) | (with_reducible refine Below.setCell ?_ ?_ _) | (with_reducible refine below_then ?_ (by assumption)) | omega | (simp; done) | (simp; omega))), (by simp), ⟨Nat.le_refl _, rfl, fun j hj => absurd hj (by omega)⟩⟩
    case round =>
      obtain ⟨k, v, qs, hk, rfl, rfl, HO, HW, hsz, hq⟩ := hrel
      clear HO1
      by_cases hlt : k < ms.length
      · have hki : (k : Int) < ms.length := by omega
        obtain ⟨ad, B', d', ead, hc1, hc2, HJ⟩ := (HM.below HW).2 k hlt
        injection ead with ead
        subst ead
        rw [addr_add] at hc1 hc2
        have HFN : Hid (okMeter (gm ms k) = false → quOk sh ms = false) := fun h => quOk_c hlt h
        obtain ⟨ys, hy⟩ : ∃ ys, (gm ms k).2 = ys := ⟨_, rfl⟩
        obtain ⟨zk, hz⟩ : ∃ zk, (gm ms k).1 = zk := ⟨_, rfl⟩
        rw [hy] at hc2 HJ
        rw [hz] at hc1
        have hgm : gm ms k = (zk, ys) := Prod.ext hz hy
        have HGM := Lib.hid hgm
        rw [hgm] at HFN
        clear hy hz hgm
        go_wp2_with fail
        cases hvk : validM zk ys with
        | false =>
          have HN := Lib.hid (HFN.out (okMeter_a hvk))
          have HVK := Lib.hid hvk
          clear hvk
          refine (l09Meter_any gB (k * 2) B' d' zk ys _ hc1 hc2 HJ).mono ?_
          rintro e w' ⟨rfl, rfl⟩
          rw [HVK.out]
          go_wp2_with fail
          exact bodyPost_ret (v := .tuple #[.slice none 0 0, .bool false]) (by simp only [results, Try.results35]; go_simp) rfl (quRes_no HN.out (by repeat' (first | (with_reducible exact Below.refl _ _) | (with_reducible assumption) | (with_reducible refine below_drewN ?_ _) | (with_reducible refine Below.drew ?_) | (with_reducible refine below_alloc ?_ _) | (with_reducible refine Below.setCell ?_ ?_ _) | (with_reducible refine below_then ?_ (by assumption)) | omega | (simp; done) | (simp; omega))))
        | true =>
          have HVK := Lib.hid hvk
          by_cases hyl : ys.length < 3
          · have hyi : (ys.length : Int) < 3 := by omega
            have HN := Lib.hid (HFN.out (okMeter_b hyl))
            clear hvk
            refine (l09Meter_any gB (k * 2) B' d' zk ys _ hc1 hc2 HJ).mono ?_
            rintro e w' ⟨rfl, rfl⟩
            rw [HVK.out]
            go_wp2_with fail
            exact bodyPost_ret (v := .tuple #[.slice none 0 0, .bool false]) (by simp only [results, Try.results35]; go_simp) rfl (quRes_no HN.out (by repeat' (first | (with_reducible exact Below.refl _ _) | (with_reducible assumption) | (with_reducible refine below_drewN ?_ _) | (with_reducible refine Below.drew ?_) | (with_reducible refine below_alloc ?_ _) | (with_reducible refine Below.setCell ?_ ?_ _) | (with_reducible refine below_then ?_ (by assumption)) | omega | (simp; done) | (simp; omega))))
          · have hyi : ¬ (ys.length : Int) < 3 := by omega
            obtain ⟨dk, rfl, _, hdk, hnk, hrk⟩ := validM_yes hvk
            have HRK := Lib.hid hrk
            have HFY : Hid (okMeter (gm ms k) = true) := by
              show _ = _
              rw [HGM.out]
              unfold okMeter
              rw [hvk]
              exact decide_eq_true (show 3 ≤ ys.length by omega)
            clear hvk hrk
            refine (l09Meter_any gB (k * 2) B' d' dk ys _ hc1 hc2 HJ).mono ?_
            rintro e w' ⟨rfl, rfl⟩
            rw [HVK.out]
            go_wp2_with fail
            refine (l09Uses_any gB (k * 2) dk B' d' ys _ hc1 hc2 HJ hdk HRK.out hnk).mono ?_
            rintro e w4 ⟨vU, rfl, HU, hb4⟩
            have HW4 := below_then HW hb4
            have HO4 := HO.below hb4
            have hs4 := hb4.size
            obtain ⟨us, hus⟩ : ∃ us, uses dk ys = us := ⟨_, rfl⟩
            have hsu := uses_small hdk HRK.out
            have hub : us.length ≤ 256 := by rw [← hus]; exact uses_le dk hnk
            have hu2 : 2 ≤ us.length := by rw [← hus, uses_length]; omega
            rw [hus] at HU hsu
            have HSU := Lib.hid hsu
            have HQY : Hid (quietB sh (uses (gm ms k).1.toNat (gm ms k).2) = quietB sh us) := by
              show _ = _
              rw [HGM.out]
              show quietB sh (uses (dk : Int).toNat ys) = quietB sh us
              rw [show uses (dk : Int).toNat ys = us from hus]
            obtain ⟨T, L, Q, R, hT, hL, hLb, q1, q2, q3, q4, q5⟩ := quiet_facts hsu hub hu2 HF.out
            rcases HU.shape with ⟨_, hnil⟩ | ⟨gU, cU, tlU, hvU, hgU, HBU, hcU1, hcU2, hcU3⟩
            · rw [hnil] at hu2
              simp at hu2
            subst hvU
            have HRU : RdI w4 (some ⟨gU, 0, none⟩) us := HU.rd
            obtain ⟨lastN, hln⟩ : ∃ lastN : Nat, us.length - 1 = lastN := ⟨_, rfl⟩
            rw [hln] at q1 q2 hT hL
            have HLN := Lib.hid hln
            have hl1 : lastN < us.length := by omega
            have hl2 : (us.length : Int) - 1 = lastN := by omega
            have hl3 : (lastN : Int) ≤ cU := by omega
            have hl4 : (0 : Int) ≤ lastN := by omega
            have hl5 : (lastN : Int) < us.length := by omega
            have hcell : w4.cell? ⟨gU, lastN, none⟩ = some (.int .i64 (L : Int)) := by
              obtain ⟨ad2, ea2, hcc⟩ := HRU.at_ hl1
              injection ea2 with ea2
              subst ea2
              rw [addr_add, hL] at hcc
              exact hcc
            have HTK := Lib.hid hT
            have htl : (us.take lastN).length = lastN := by rw [List.length_take]; omega
            have HTL := Lib.hid htl
            have g1 := fI_of T
            have g2 := fI_of lastN
            have g3 := fI_of L
            have HQ5 := Lib.hid q5
            obtain ⟨qb, hqb⟩ : ∃ qb, quietB sh us = qb := ⟨_, rfl⟩
            rw [hqb] at HQY HQ5
            have hq5 := HQ5.out
            clear q5 hT hL hln htl hqb hus hsu HU HO HW hb4 HJ hc1 hc2 hcU3 HBU
            go_wp2_with fail
            refine (totalAt_any (some ⟨gU, 0, none⟩) cU lastN (us.take lastN) _ (RdI.take HRU lastN) (small_take HSU.out lastN) (by rw [HTL.out]; omega) HTL.out).mono ?_
            rintro e w' ⟨rfl, rfl⟩
            rw [HTK.out]
            cases qb with
            | false =>
              have HST := Lib.hid (quietAt_no HQY.out)
              go_wp2_with fail
              go_roundw
              case rel =>
                refine ⟨k + 1, v, qs, by omega, by go_num, rfl, HO4, HW4, by omega, ⟨by have := hq.out.1; omega, by rw [HST.out]; exact hq.out.2.1, fun j hj => ?_⟩⟩
                rcases Nat.lt_or_ge j k with h | h
                · exact hq.out.2.2 j h
                · obtain rfl : j = k := by omega
                  exact HFY.out
              case measure => simp [intOf]; omega
            | true =>
              have HST := Lib.hid (quietAt_yes HQY.out)
              go_wp2_with (at_builtin; go_loud (refine wpList_append_own _ rfl _ _ 22 rfl w.heap.size 2 i0 (.int .i64 0) 1 8 Try.underlying22 HI.out.1 HI.out.2.1 HI.out.2.2.1 HI.out.2.2.2 rfl (by decide) _ _ _ rfl (by exact HO4.below (by repeat' (first | (with_reducible exact Below.refl _ _) | (with_reducible assumption) | (with_reducible refine below_drewN ?_ _) | (with_reducible refine Below.drew ?_) | (with_reducible refine below_alloc ?_ _) | (with_reducible refine Below.setCell ?_ ?_ _) | (with_reducible refine below_then ?_ (by assumption)) | exact below_then (Below.drew (Below.refl _ _)) (by assumption) | omega | (simp; done) | (simp; omega)))) ⟨w4.heap.size, 0, none⟩ 1 1 [.int .i64 (k : Int)] rfl rfl (by intro j u hu; match j, hu with | 0, hu => (injection hu with hu; subst hu; rw [Addr.add_zero']; exact Blk.c0 (l := []) (Blk.new _ _ [_]))) (by intro u hu; simp at hu; subst hu; rfl) (by have := hq.out.1; unfold maxLen; omega) (by have := hq.out.1; omega) (by simp; omega) ?_; intro v' w5 hown hgr _; have HO5 : OwnI w5 w.heap.size v' (qs ++ [(k : Int)]) := (by unfold OwnI; simpa using hown); have HW5 : Below w.heap.size w w5 := Below.grown (by exact below_alloc HW4 _) hgr (by simp; omega) (fun k hk => (HO4.lt k hk).1); have hs5 := hgr.size; clear hown hgr))
              go_roundw
              case rel =>
                refine ⟨k + 1, v', qs ++ [(k : Int)], by omega, by go_num, rfl, HO5, HW5, by simp at hs5; omega, ⟨by simp; exact hq.out.1, by rw [HST.out, ← hq.out.2.1], fun j hj => ?_⟩⟩
                rcases Nat.lt_or_ge j k with h | h
                · exact hq.out.2.2 j h
                · obtain rfl : j = k := by omega
                  exact HFY.out
              case measure => simp [intOf]; omega
      · obtain rfl : k = ms.length := by omega
        have HOK := Lib.hid (quOk_yes hn' HF.out hq.out.2.2)
        have hres : OwnI wr w.heap.size v (quR sh ms) := by
          rw [quR_yes HOK.out, ← hq.out.2.1]
          exact HO
        have HRES : Hid (QuRes w sh ms (.returned (.tuple #[v, .bool true])) wr) := ⟨v, by rw [HOK.out], hres, HW⟩
        clear HO HW hres
        go_wp2_with fail
        exact bodyPost_ret (v := .tuple #[v, .bool true]) (by simp only [results, Try.results35]; go_simp) rfl HRES.out
end Go.Proofs.Ytiikjnokoihhgaa
