/-
  MetersBalance of the program.
-/
import Derived.Test.YtiikjnokoihhgaaLp
import Derived.Test.YtiikjnokoihhgaaBp
namespace Go.Proofs.Ytiikjnokoihhgaa
open Go.RowKit Go.Fl Go.Lb

theorem OwnI.setAt {w : World} {B g n cap j : Nat} {xs : List Int} (h : OwnI w B (.slice (some ⟨g, 0, none⟩) n cap) xs) (hj : j < xs.length) (y : Int) : OwnI (w.setCell ⟨g, j, none⟩ (iv y)) B (.slice (some ⟨g, 0, none⟩) n cap) (xs.set j y) := by
  rcases h.shape with ⟨hv, _⟩ | ⟨g', cap', ys, hv, hB, hk, h1, h2, h3⟩
  · cases hv
  · injection hv with e1 e2 e3
    injection e1 with e1
    injection e1 with e1
    subst e1
    subst e2
    subst e3
    have hs := hk.set j (iv y)
    rw [List.set_append_left _ _ (by simpa using hj), ← List.map_set] at hs
    have := OwnI.of (B := B) hB hs (by simpa using h1) h2 (by simpa using h3)
    simpa using this
theorem OwnI.cellAt {w : World} {B g n cap j : Nat} {xs : List Int} (h : OwnI w B (.slice (some ⟨g, 0, none⟩) n cap) xs) (hj : j < xs.length) : w.cell? ⟨g, j, none⟩ = some (iv (gi xs j)) ∧ w.frozen? ⟨g, j, none⟩ = false := by
  rcases h.shape with ⟨hv, _⟩ | ⟨g', cap', ys, hv, hB, hk, h1, h2, h3⟩
  · cases hv
  · injection hv with e1 e2 e3
    injection e1 with e1
    injection e1 with e1
    subst e1
    refine ⟨?_, hk.frozen j⟩
    rw [hk.cell, List.getElem?_append_left (by simpa using hj)]
    simp [gi_eq hj, List.getElem?_eq_getElem hj]
theorem owns_set {w : World} {B g j : Nat} {v u : Value} {xs : List Int} (h : OwnI w B v xs) (hne : v.ownBlock = none ∨ v.ownBlock ≠ some g) : OwnI (w.setCell ⟨g, j, none⟩ u) B v xs :=
  World.ownsRow.kept h (grown_set (grown_refl w (some g)) j u) hne
theorem balAt_within {d : Nat} {xs : List Int} {ms : List Mt} {n : Nat} (hs : small (uses d xs)) : ∀ k, k ≤ ms.length → (∀ j, j < k → validM (gm ms j).1 (gm ms j).2 = true ∧ (gm ms j).2.length = n) → n = xs.length → within (((k : Int) + 1) * 1000000000) (balAt (uses d xs) ms k) := by
  intro k
  induction k with
  | zero =>
    intro _ _ _ i hi
    have := hs i hi
    have e : balAt (uses d xs) ms 0 = uses d xs := rfl
    rw [e]
    omega
  | succ k ih =>
    intro hk hf hn
    have h1 := ih (by omega) (fun j hj => hf j (by omega)) hn
    obtain ⟨h2, h3⟩ := hf k (by omega)
    obtain ⟨d', hz, _, hd', _, hr⟩ := validM_yes h2
    rw [balAt_step (by omega), hz]
    have h4 := within_off h1 (uses_small hd' hr) (by rw [balAt_length _ _ _ (by omega), uses_length, uses_length]; omega) (balAt (uses d xs) ms k).length
    intro i hi
    have h5 := h4 i hi
    have e : (((k + 1 : Nat) : Int) + 1) * 1000000000 = ((k : Int) + 1) * 1000000000 + 1000000000 := by omega
    rw [e]
    exact h5
set_option maxRecDepth 100000 in
set_option maxHeartbeats 4000000 in
theorem balI_any (A B : Option Addr) (c e0 : Nat) (z : Int) (xs : List Int) (ms : List Mt) (w : World) (HX : RdI w A xs) (HM : RdM w B ms) :
    Calls Try.prog 32 #[meterV z A xs.length c, .slice B ms.length e0] w (BalRes w z xs ms) := by
  have hml := HM.1
  cases hv : validM z xs with
  | false =>
    have HN := Lib.hid (balOk_a (ms := ms) hv)
    have HV := Lib.hid hv
    clear hv
    go_enter Try.func32, Try.ntmps32
    go_wp2_with fail
    (refine (validMeterI_any A c z xs _ (HX.below (by repeat' (first | (with_reducible exact Below.refl _ _) | (with_reducible assumption) | (with_reducible refine below_drewN ?_ _) | (with_reducible refine Below.drew ?_) | (with_reducible refine below_alloc ?_ _) | (with_reducible refine Below.setCell ?_ ?_ _) | (with_reducible refine below_then ?_ (by assumption)) | omega | (simp; done) | (simp; omega))))).mono ?_; rintro e w1 ⟨rfl, hb1⟩; rw [HV.out]; have hz1 := hb1.size; (try simp at hz1); obtain ⟨hc1_0, hf1_0, hx1_0⟩ := bcell0 hb1 w.heap.size (by first | assumption | omega | (simp; done) | (simp; omega)))
    go_wp2_with fail
    exact bodyPost_ret (v := .tuple #[.slice none 0 0, .bool false]) (by simp only [results, Try.results32]; go_simp) rfl (balRes_no HN.out (by repeat' (first | (with_reducible exact Below.refl _ _) | (with_reducible assumption) | (with_reducible refine below_drewN ?_ _) | (with_reducible refine Below.drew ?_) | (with_reducible refine below_alloc ?_ _) | (with_reducible refine Below.setCell ?_ ?_ _) | (with_reducible refine below_then ?_ (by assumption)) | omega | (simp; done) | (simp; omega))))
  | true =>
    have HV := Lib.hid hv
    by_cases hn : 256 < ms.length
    · have hni : 256 < (ms.length : Int) := by omega
      have HN := Lib.hid (balOk_b (z := z) (xs := xs) hn)
      clear hv
      go_enter Try.func32, Try.ntmps32
      go_wp2_with fail
      (refine (validMeterI_any A c z xs _ (HX.below (by repeat' (first | (with_reducible exact Below.refl _ _) | (with_reducible assumption) | (with_reducible refine below_drewN ?_ _) | (with_reducible refine Below.drew ?_) | (with_reducible refine below_alloc ?_ _) | (with_reducible refine Below.setCell ?_ ?_ _) | (with_reducible refine below_then ?_ (by assumption)) | omega | (simp; done) | (simp; omega))))).mono ?_; rintro e w1 ⟨rfl, hb1⟩; rw [HV.out]; have hz1 := hb1.size; (try simp at hz1); obtain ⟨hc1_0, hf1_0, hx1_0⟩ := bcell0 hb1 w.heap.size (by first | assumption | omega | (simp; done) | (simp; omega)))
      go_wp2_with fail
      exact bodyPost_ret (v := .tuple #[.slice none 0 0, .bool false]) (by simp only [results, Try.results32]; go_simp) rfl (balRes_no HN.out (by repeat' (first | (with_reducible exact Below.refl _ _) | (with_reducible assumption) | (with_reducible refine below_drewN ?_ _) | (with_reducible refine Below.drew ?_) | (with_reducible refine below_alloc ?_ _) | (with_reducible refine Below.setCell ?_ ?_ _) | (with_reducible refine below_then ?_ (by assumption)) | omega | (simp; done) | (simp; omega))))
    · have hni : ¬ 256 < (ms.length : Int) := by omega
      have hn' : ms.length ≤ 256 := by omega
      obtain ⟨d, rfl, hd1, hd, hnx, hr⟩ := validM_yes hv
      have HRD := Lib.hid hr
      have HSM := Lib.hid (uses_small hd hr)
      clear hv hr
      go_enter Try.func32, Try.ntmps32
      go_wp2_with fail
      have K0 := Blk.new w 27 [.int .i64 (d : Int), .slice A xs.length c]
      (refine (validMeterI_any A c d xs _ (HX.below (by repeat' (first | (with_reducible exact Below.refl _ _) | (with_reducible assumption) | (with_reducible refine below_drewN ?_ _) | (with_reducible refine Below.drew ?_) | (with_reducible refine below_alloc ?_ _) | (with_reducible refine Below.setCell ?_ ?_ _) | (with_reducible refine below_then ?_ (by assumption)) | omega | (simp; done) | (simp; omega))))).mono ?_; rintro e w1 ⟨rfl, hb1⟩; rw [HV.out]; have hz1 := hb1.size; (try simp at hz1); obtain ⟨hc1_0, hf1_0, hx1_0⟩ := bcell0 hb1 w.heap.size (by first | assumption | omega | (simp; done) | (simp; omega)))
      have K1 := K0.below hb1
      have hb1' : Below w.heap.size w w1 := (by repeat' (first | (with_reducible exact Below.refl _ _) | (with_reducible assumption) | (with_reducible refine below_drewN ?_ _) | (with_reducible refine Below.drew ?_) | (with_reducible refine below_alloc ?_ _) | (with_reducible refine Below.setCell ?_ ?_ _) | (with_reducible refine below_then ?_ (by assumption)) | omega | (simp; done) | (simp; omega)))
      have HX1 := HX.below hb1'
      have k0 := K1.c0
      have k1 := K1.c1
      have kl := K1.lt
      clear hb1 hc1_0 hf1_0 K0
      go_wp2_with fail
      refine (usesI_any w.heap.size 0 d A c xs _ k0 k1 HX1 hd HRD.out hnx).mono ?_
      rintro e w2 ⟨v, rfl, HO, hb2⟩
      obtain ⟨os, hos⟩ : ∃ os, uses d xs = os := ⟨_, rfl⟩
      have hol : os.length = xs.length - 1 := by rw [← hos]; exact uses_length d xs
      rw [hos] at HO HSM
      have HOS := Lib.hid (And.intro hos hol)
      have HW2 := below_then hb1' hb2
      have K2 := K1.below hb2
      have HO2 : OwnI w2 (w.heap.size + 1) v os := HO.mono (by omega)
      have HIN : Hid (InR v 0 w2.heap.size) := fun k hk => ⟨Nat.zero_le _, (HO.lt k hk).2⟩
      have HBW : Hid (∀ k, k ≤ ms.length → (∀ j, j < k → validM (gm ms j).1 (gm ms j).2 = true ∧ (gm ms j).2.length = xs.length) → within (((k : Int) + 1) * 1000000000) (balAt os ms k)) := fun k hk hf => by
        rw [← hos]
        exact balAt_within (n := xs.length) (by rw [hos]; exact HSM.out) k hk hf rfl
      have hb02 := hb2.size
      clear hos hol HO hb1' hb2 K1 k0 k1 HX1
      go_wp2_with fail
      go_loopw [22] (fun kv wr => ∃ k : Nat, k ≤ ms.length ∧ kv = .int .i64 k ∧ OwnI wr (w.heap.size + 1) v (balAt os ms k) ∧ Below w.heap.size w wr ∧ Blk wr w.heap.size 27 [.int .i64 (d : Int), .slice A xs.length c] ∧ w2.heap.size ≤ wr.heap.size ∧ Hid (∀ j, j < k → fitM xs.length (gm ms j) = true)) (fun kv _ => ms.length - (intOf kv).toNat)
      case atStart => exact ⟨0, Nat.zero_le _, rfl, HO2, HW2, K2, Nat.le_refl _, fun j hj => absurd hj (by omega)⟩
      case round =>
        obtain ⟨k, hk, rfl, HO, HW, HK, hsz, hall⟩ := hrel
        clear HO2 HW2 K2
        by_cases hlt : k < ms.length
        · have hki : (k : Int) < ms.length := by omega
          obtain ⟨ad, B', d', rfl, hc1, hc2, HJ⟩ := (HM.below HW).2 k hlt
          have HFN : Hid (fitM xs.length (gm ms k) = false → balOk d xs ms = false) := fun h => balOk_c hlt h
          have HST := Lib.hid (balAt_step (os := os) hlt)
          obtain ⟨ys, hy⟩ : ∃ ys, (gm ms k).2 = ys := ⟨_, rfl⟩
          obtain ⟨zk, hz⟩ : ∃ zk, (gm ms k).1 = zk := ⟨_, rfl⟩
          rw [hy] at hc2 HJ
          rw [hz] at hc1
          have HYZ := Lib.hid (And.intro hy hz)
          have hgm : gm ms k = (zk, ys) := Prod.ext hz hy
          rw [hgm] at HFN HST
          clear hy hz
          go_wp2_with fail
          have T8 := Blk.new wr 27 [.int .i64 zk, .slice B' ys.length d']
          have ba := below_alloc (Below.refl wr.heap.size wr) (.cells #[.int .i64 zk, .slice B' ys.length d'] 27)
          cases hvk : validM zk ys with
          | false =>
            have HN := Lib.hid (HFN.out (fitM_a hvk))
            have HVK := Lib.hid hvk
            clear hvk hgm
            refine (validMeterI_any B' d' zk ys _ (HJ.below ba)).mono ?_
            rintro e w3 ⟨rfl, hb3⟩
            rw [HVK.out]
            have HW3 := below_then (below_then HW ba) hb3
            clear hb3 ba T8
            go_wp2_with fail
            exact bodyPost_ret (v := .tuple #[.slice none 0 0, .bool false]) (by simp only [results, Try.results32]; go_simp) rfl (balRes_no HN.out HW3)
          | true =>
            have HVK := Lib.hid hvk
            by_cases hyl : ys.length = xs.length
            · have hne : ((ys.length : Int) != (xs.length : Int)) = false := by rw [hyl]; simp
              obtain ⟨dk, rfl, _, hdk, hnk, hrk⟩ := validM_yes hvk
              have HRK := Lib.hid hrk
              have HYL := Lib.hid hyl
              have HFY : Hid (fitM xs.length (gm ms k) = true) := by
                show _ = _
                rw [hgm]
                unfold fitM
                rw [hvk]
                simpa using hyl
              clear hvk hgm hyl hrk
              refine (validMeterI_any B' d' dk ys _ (HJ.below ba)).mono ?_
              rintro e w3 ⟨rfl, hb3⟩
              rw [HVK.out]
              have HW3 := below_then (below_then HW ba) hb3
              have T3 := T8.below hb3
              have HO3 := (HO.below ba).below hb3
              have HK3 := (HK.below ba).below hb3
              have HJ3 := (HJ.below ba).below hb3
              have hs3 := hb3.size
              simp at hs3
              clear hb3 ba T8 HO HK HJ HW hc1 hc2
              have t0 := T3.c0; have t1 := T3.c1; have q1 := HK3.c1; have tl := T3.lt; have ql := HK3.lt
              go_wp2_with fail
              refine (usesI_any wr.heap.size 0 dk B' d' ys _ t0 t1 HJ3 hdk HRK.out hnk).mono ?_
              rintro e w4 ⟨vU, rfl, HU, hb4⟩
              have HW4 := below_then HW3 hb4
              have HO4 := HO3.below hb4
              have HK4 := HK3.below hb4
              have hs4 := hb4.size
              have HNE : Hid (vU.ownBlock = none ∨ vU.ownBlock ≠ v.ownBlock) := InR.apart (lo := w3.heap.size) (hi := w4.heap.size) (fun j hj => HU.lt j hj) HIN.out (.inr (by omega))
              obtain ⟨us, hus⟩ : ∃ us, uses dk ys = us := ⟨_, rfl⟩
              have HSU := Lib.hid (uses_small hdk HRK.out)
              have hul : us.length = os.length := by rw [← hus, uses_length, HYL.out, HOS.out.2]
              have hub : us.length ≤ 256 := by rw [← hus]; exact uses_le dk hnk
              rw [hus] at HU HSU
              have HUU : Hid (uses (dk : Int).toNat ys = us) := hus
              obtain ⟨Lk, hLk⟩ : ∃ Lk, balAt os ms k = Lk := ⟨_, rfl⟩
              have hLl : Lk.length = os.length := by rw [← hLk]; exact balAt_length _ _ _ (by omega)
              have hwt : within (((k : Int) + 1) * 1000000000) Lk := by
                rw [← hLk]
                exact HBW.out k (by omega) (fun j hj => fitM_yes (hall.out j hj))
              have HWT := Lib.hid hwt
              rw [hLk] at HO4 HST
              have HLU : Hid (Lk.length = us.length) := hLl.trans hul.symm
              have hlu1 : Lk.length ≤ us.length := by omega
              have hlu2 : us.length ≤ Lk.length := by omega
              have HOL := Lib.hid hLl
              obtain ⟨AU, cU, rfl, _⟩ := HU.rdI
              clear hus hul hLk hLl hwt HO3 HK3 HW3 T3 t0 t1 q1 hb4 HJ3
              go_wp2_with fail
              go_loopw [40] (fun jv wi => ∃ j : Nat, j ≤ us.length ∧ jv = .int .i64 j ∧ OwnI wi (w.heap.size + 1) v (takeOff Lk us j) ∧ OwnI wi w3.heap.size (.slice AU us.length cU) us ∧ Below w.heap.size w wi ∧ Blk wi w.heap.size 27 [.int .i64 (d : Int), .slice A xs.length c] ∧ w2.heap.size ≤ wi.heap.size) (fun jv _ => us.length - (intOf jv).toNat)
              case atStart => exact ⟨0, Nat.zero_le _, rfl, by rw [takeOff_zero]; exact HO4, HU, HW4, HK4, by omega⟩
              case round =>
                obtain ⟨j, hj, rfl, HOi, HUi, HWi, HKi, hszi⟩ := hrel
                clear HO4 HU HW4 HK4
                by_cases hjl : j < us.length
                · have hji : (j : Int) < us.length := by omega
                  have hjL : j < Lk.length := by omega
                  obtain ⟨au, rfl, hcu⟩ := (OwnI.rd HUi).at_ hjl
                  rcases HOi.shape with ⟨_, hnil⟩ | ⟨g, cap, tl', hvv, hgB, _, _, _, _⟩
                  · exfalso
                    have := congrArg List.length hnil
                    rw [takeOff_length] at this
                    simp at this
                    rw [this] at hjL
                    simp at hjL
                  · rw [takeOff_length] at hvv
                    subst hvv
                    have hjg : j < (takeOff Lk us j).length := by rw [takeOff_length]; exact hjL
                    obtain ⟨o0, oz⟩ := OwnI.cellAt HOi hjg
                    have hgj : gi (takeOff Lk us j) j = gi Lk j := by rw [takeOff_at hjL, if_neg (by omega)]
                    rw [hgj] at o0
                    have HS2 := OwnI.setAt HOi hjg (gi Lk j - gi us j)
                    rw [takeOff_step] at HS2
                    have HU2 := owns_set (j := j) (u := iv (gi Lk j - gi us j)) HUi (by have h := HNE.out; simpa [Value.ownBlock] using h : (Value.slice (some au) us.length cU).ownBlock = none ∨ (Value.slice (some au) us.length cU).ownBlock ≠ some g)
                    have HW2' := HWi.setCell (p := ⟨g, j, none⟩) (show w.heap.size ≤ g by omega) (iv (gi Lk j - gi us j))
                    have HK2 := HKi.other (a := ⟨g, j, none⟩) (show g ≠ w.heap.size by omega) (iv (gi Lk j - gi us j))
                    have b1 := HWT.out j hjL
                    have b2 := HSU.out j hjl
                    have hjLi : (j : Int) < Lk.length := by omega
                    have hsz2 : w2.heap.size ≤ (wr.setCell ⟨g, j, none⟩ (iv (gi Lk j - gi us j))).heap.size := by simpa using hszi
                    obtain ⟨b3, b4⟩ := b1
                    obtain ⟨b5, b6⟩ := b2
                    have hk256 : k ≤ 256 := by omega
                    clear HOi HUi HWi HKi hgj hjg
                    go_wp2_with fail
                    go_roundw
                    case rel => exact ⟨j + 1, by omega, by go_num, HS2, HU2, HW2', HK2, hsz2⟩
                    case measure => simp [intOf]; omega
                · obtain rfl : j = us.length := by omega
                  have HST2 : Hid (takeOff Lk us us.length = balAt os ms (k + 1)) := by
                    show _ = _
                    rw [HST.out]
                    show takeOff Lk us us.length = takeOff Lk (uses (dk : Int).toNat ys) Lk.length
                    rw [HUU.out, HLU.out]
                  rw [HST2.out] at HOi
                  go_wp2_with fail
                  go_roundw
                  case rel =>
                    refine ⟨k + 1, by omega, by go_num, HOi, HWi, HKi, hszi, fun i hi => ?_⟩
                    rcases Nat.lt_or_ge i k with h | h
                    · exact hall.out i h
                    · obtain rfl : i = k := by omega
                      exact HFY.out
                  case measure => simp [intOf]; omega
            · have hne : ((ys.length : Int) != (xs.length : Int)) = true := by simp; omega
              have HN := Lib.hid (HFN.out (fitM_b hyl))
              clear hvk hgm
              refine (validMeterI_any B' d' zk ys _ (HJ.below ba)).mono ?_
              rintro e w3 ⟨rfl, hb3⟩
              rw [HVK.out]
              have HW3 := below_then (below_then HW ba) hb3
              have T3 := T8.below hb3
              have HK3 := (HK.below ba).below hb3
              have t1 := T3.c1; have q1 := HK3.c1
              clear hb3 ba T8 T3 HK3
              go_wp2_with fail
              exact bodyPost_ret (v := .tuple #[.slice none 0 0, .bool false]) (by simp only [results, Try.results32]; go_simp) rfl (balRes_no HN.out HW3)
        · obtain rfl : k = ms.length := by omega
          have HOK := Lib.hid (balOk_yes HV.out hn' hall.out)
          have hres : OwnI wr w.heap.size v (balR d xs ms) := by
            rw [balR_yes HOK.out, HOS.out.1]
            exact HO.mono (by omega)
          have HRES : Hid (BalRes w d xs ms (.returned (.tuple #[v, .bool true])) wr) := ⟨v, by rw [HOK.out], hres, HW⟩
          clear HO HW HK hres
          go_wp2_with fail
          exact bodyPost_ret (v := .tuple #[v, .bool true]) (by simp only [results, Try.results32]; go_simp) rfl HRES.out
end Go.Proofs.Ytiikjnokoihhgaa
