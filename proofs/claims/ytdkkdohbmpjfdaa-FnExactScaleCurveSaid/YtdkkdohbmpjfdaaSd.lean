/-
  ScaleCurve of the program.
-/
import Derived.Test.YtdkkdohbmpjfdaaSc
import Derived.Deep.RegionWith
import Derived.Deep.RegionHeld
namespace Go.Proofs.Ytdkkdohbmpjfdaa
open Go.RowKit Go.Fl Go.Lb

theorem scaledR_any (A : Option Addr) (cp : Nat) (xs : List Nat) (x : Nat) (w : World) (HX : RdF w A xs) (hl : xs.length ≤ 1048576) :
    Calls Try.prog 67 #[.slice A xs.length cp, .float .f32 x] w fun e w' => ∃ A' c' qs, e = .returned (.slice A' qs.length c') ∧ OwnF w' w.heap.size (.slice A' qs.length c') qs ∧ InR (.slice A' qs.length c') w.heap.size w'.heap.size ∧ Hid (qs.map (cn .f32) = xs.map (sc x)) ∧ Below w.heap.size w w' := by
  refine (scaled_any A cp xs x w HX hl).mono ?_
  rintro e w' ⟨v, qs, rfl, HO, hq, hb⟩
  obtain ⟨A', c', rfl, _⟩ := HO.rdF
  exact ⟨A', c', qs, rfl, HO, World.ownsRow.lt HO, hq, hb⟩
structure ScJ (w wx : World) (A B : Option Addr) (c d : Nat) (xs ts : List Nat) (p : Nat) (v1 v2 : Value) (qs rs : List Nat) : Prop where
  bel : Below w.heap.size w wx
  cb : Blk wx w.heap.size 54 [.slice A xs.length c, .slice B ts.length d]
  rb : Blk wx (w.heap.size + 1) 54 [.slice none 0 0, .slice none 0 0]
  hp : w.heap.size + 2 ≤ p
  ob : Blk wx p 54 [v1, v2]
  o1 : OwnF wx (w.heap.size + 2) v1 qs
  o2 : OwnF wx (w.heap.size + 2) v2 rs
  ne : v1.ownBlock = none ∨ v1.ownBlock ≠ v2.ownBlock
theorem ScJ.below {w wx wy : World} {A B : Option Addr} {c d : Nat} {xs ts : List Nat} {p : Nat} {v1 v2 : Value} {qs rs : List Nat} (h : ScJ w wx A B c d xs ts p v1 v2 qs rs) (hb : Below wx.heap.size wx wy) : ScJ w wy A B c d xs ts p v1 v2 qs rs :=
  ⟨below_then h.bel hb, h.cb.below hb, h.rb.below hb, h.hp, h.ob.below hb, OwnF.below h.o1 hb, OwnF.below h.o2 hb, h.ne⟩
theorem own_set {w : World} {B lo hi g j : Nat} {v u : Value} {xs : List Nat} (h : OwnF w B v xs) (hr : InR v lo hi) (hg : g < lo ∨ hi ≤ g) : OwnF (w.setCell ⟨g, j, none⟩ u) B v xs := by
  refine World.ownsRow.kept h (grown_set (grown_refl w (some g)) j u) ?_
  cases hv : v.ownBlock with
  | none => exact .inl rfl
  | some k =>
    refine .inr fun e => ?_
    injection e with e
    have := hr k hv
    omega
set_option maxRecDepth 100000 in
set_option maxHeartbeats 4000000 in
theorem scaleI_any (A B : Option Addr) (c d : Nat) (xs ts : List Nat) (x y : Nat) (w : World) (HX : RdF w A xs) (HT : RdF w B ts) (hl : xs.length ≤ 1048576) (hl2 : ts.length ≤ 1048576) :
    Calls Try.prog 44 #[.agg #[.slice A xs.length c, .slice B ts.length d], .float .f32 x, .float .f32 y] w (ScRes w xs ts x y) := by
  go_enter Try.func44, Try.ntmps44
  go_wp2_with fail
  have C0 := Blk.alloc (Blk.new w 54 [.slice A xs.length c, .slice B ts.length d]) (.cells #[.slice none 0 0, .slice none 0 0] 54)
  have R0 : Blk ((w.alloc (.cells #[.slice A xs.length c, .slice B ts.length d] 54)).alloc (.cells #[.slice none 0 0, .slice none 0 0] 54)) (w.heap.size + 1) 54 [.slice none 0 0, .slice none 0 0] := by
    have := Blk.new (w.alloc (.cells #[.slice A xs.length c, .slice B ts.length d] 54)) 54 [.slice none 0 0, .slice none 0 0]
    simpa using this
  go_upto_region 1 with fail
  go_cut [8] (fun s8 wx => ∃ (p : Nat) (v1 v2 : Value) (qs rs : List Nat), s8 = .pointer (some ⟨p, 0, none⟩) ∧ ScJ w wx A B c d xs ts p v1 v2 qs rs ∧ Hid (qs.map (cn .f32) = xs.map (sc x)) ∧ Hid (rs.map (cn .f32) = ts.map (sc y)))
  case first =>
    go_region_held (fun w' => w'.cell? ⟨w.heap.size, 0, none⟩ = some (.slice A xs.length c) ∧ w'.cell? ⟨w.heap.size, 1, none⟩ = some (.slice B ts.length d))
      (exact ⟨cell_keep (by repeat' (first | (with_reducible exact Below.refl _ _) | (with_reducible assumption) | (with_reducible refine below_drewN ?_ _) | (with_reducible refine Below.drew ?_) | (with_reducible refine below_alloc ?_ _) | (with_reducible refine Below.setCell ?_ ?_ _) | (with_reducible refine below_then ?_ (by assumption)) | exact below_then (Below.drew (Below.refl _ _)) (by assumption) | omega | (simp; done) | (simp; omega))) C0.c0, cell_keep (by repeat' (first | (with_reducible exact Below.refl _ _) | (with_reducible assumption) | (with_reducible refine below_drewN ?_ _) | (with_reducible refine Below.drew ?_) | (with_reducible refine below_alloc ?_ _) | (with_reducible refine Below.setCell ?_ ?_ _) | (with_reducible refine below_then ?_ (by assumption)) | exact below_then (Below.drew (Below.refl _ _)) (by assumption) | omega | (simp; done) | (simp; omega))) C0.c1⟩)
      (first
      | (go_at_call_of 67 (Value.slice A xs.length c); (refine (scaledR_any A c xs x _ (HX.below (by repeat' (first | (with_reducible exact Below.refl _ _) | (with_reducible assumption) | (with_reducible refine below_drewN ?_ _) | (with_reducible refine Below.drew ?_) | (with_reducible refine below_alloc ?_ _) | (with_reducible refine Below.setCell ?_ ?_ _) | (with_reducible refine below_then ?_ (by assumption)) | exact below_then (Below.drew (Below.refl _ _)) (by assumption) | omega | (simp; done) | (simp; omega)))) hl).mono ?_; rintro e w1 ⟨A1, c1, qs, rfl, O1, L1, Q1, hb1⟩; (try (have hxx := bcell0 hb1 (w.heap.size + 1 + 1) (by first | assumption | omega | (simp; done) | (simp; omega)); obtain ⟨hcA1, hfA1, hxA1⟩ := hxx)); (try (have hxx := bcell0 hb1 w2.heap.size (by first | assumption | omega | (simp; done) | (simp; omega)); obtain ⟨hcB1, hfB1, hxB1⟩ := hxx)); have hz1 := hb1.size; (try simp at hz1)))
      | (go_at_call_of 67 (Value.slice B ts.length d); (refine (scaledR_any B d ts y _ (HT.below (by repeat' (first | (with_reducible exact Below.refl _ _) | (with_reducible assumption) | (with_reducible refine below_drewN ?_ _) | (with_reducible refine Below.drew ?_) | (with_reducible refine below_alloc ?_ _) | (with_reducible refine Below.setCell ?_ ?_ _) | (with_reducible refine below_then ?_ (by assumption)) | exact below_then (Below.drew (Below.refl _ _)) (by assumption) | omega | (simp; done) | (simp; omega)))) hl2).mono ?_; rintro e w2 ⟨A2, c2, rs, rfl, O2, L2, Q2, hb2⟩; (try (have hxx := bcell0 hb2 (w.heap.size + 1 + 1) (by first | assumption | omega | (simp; done) | (simp; omega)); obtain ⟨hcA2, hfA2, hxA2⟩ := hxx)); (try (have hxx := bcell0 hb2 w1.heap.size (by first | assumption | omega | (simp; done) | (simp; omega)); obtain ⟨hcB2, hfB2, hxB2⟩ := hxx)); have hz2 := hb2.size; (try simp at hz2))))
    all_goals
      have O1' := (OwnF.below O1 (show Below w1.heap.size w1 w2 from (by repeat' (first | (with_reducible exact Below.refl _ _) | (with_reducible assumption) | (with_reducible refine below_drewN ?_ _) | (with_reducible refine Below.drew ?_) | (with_reducible refine below_alloc ?_ _) | (with_reducible refine Below.setCell ?_ ?_ _) | (with_reducible refine below_then ?_ (by assumption)) | exact below_then (Below.drew (Below.refl _ _)) (by assumption) | omega | (simp; done) | (simp; omega))))).mono (show w.heap.size + 2 ≤ _ by first | omega | (simp; done) | (simp; omega))
      have hB : Below _ ((w.alloc (.cells #[.slice A xs.length c, .slice B ts.length d] 54)).alloc (.cells #[.slice none 0 0, .slice none 0 0] 54)) w2 := (by repeat' (first | (with_reducible exact Below.refl _ _) | (with_reducible assumption) | (with_reducible refine below_drewN ?_ _) | (with_reducible refine Below.drew ?_) | (with_reducible refine below_alloc ?_ _) | (with_reducible refine Below.setCell ?_ ?_ _) | (with_reducible refine below_then ?_ (by assumption)) | exact below_then (Below.drew (Below.refl _ _)) (by assumption) | omega | (simp; done) | (simp; omega)))
      have hbw : Below w.heap.size w w2 := (by repeat' (first | (with_reducible exact Below.refl _ _) | (with_reducible assumption) | (with_reducible refine below_drewN ?_ _) | (with_reducible refine Below.drew ?_) | (with_reducible refine below_alloc ?_ _) | (with_reducible refine Below.setCell ?_ ?_ _) | (with_reducible refine below_then ?_ (by assumption)) | exact below_then (Below.drew (Below.refl _ _)) (by assumption) | omega | (simp; done) | (simp; omega)))
      have O2' := O2.mono (show w.heap.size + 2 ≤ _ by first | omega | (simp; done) | (simp; omega))
      have hne := InR.apart L1 L2 (.inl (by simp))
      have C2 := C0.below hB
      have R2 := R0.below hB
      clear hB
      go_wp2_with fail
      go_meet
      first
        | exact ⟨_, _, _, qs, rs, rfl, ⟨below_alloc hbw _, C2.alloc _, R2.alloc _, by omega, Blk.new _ _ [_, _], World.ownsRow.alloc O1' _, World.ownsRow.alloc O2' _, hne⟩, Q1, Q2⟩
        | (have P2 : Blk w2 w1.heap.size 54 [.slice none 0 0, .slice none 0 0] := Blk.below (Blk.drewN (Blk.new w1 _ _) 0) hb2
           exact ⟨_, _, _, qs, rs, rfl, ⟨(hbw.setCell (show w.heap.size ≤ w1.heap.size by omega) _).setCell (show w.heap.size ≤ w1.heap.size by omega) _, (C2.other (show w1.heap.size ≠ _ by omega) _).other (show w1.heap.size ≠ _ by omega) _, (R2.other (show w1.heap.size ≠ _ by omega) _).other (show w1.heap.size ≠ _ by omega) _, by omega, (P2.set 0 _).set 1 _, own_set (own_set O1' L1 (.inr (by simp))) L1 (.inr (by simp)), own_set (own_set O2' L2 (.inl (by simp))) L2 (.inl (by simp)), hne⟩, Q1, Q2⟩)
        | (have P2 : Blk w2 (w.heap.size + 1 + 1) 54 [.slice none 0 0, .slice none 0 0] := by
             have := Blk.new ((w.alloc (.cells #[.slice A xs.length c, .slice B ts.length d] 54)).alloc (.cells #[.slice none 0 0, .slice none 0 0] 54)) 54 [.slice none 0 0, .slice none 0 0]
             simp at this
             exact Blk.below (Blk.below (this.drewN 1) hb1) hb2
           exact ⟨_, _, _, qs, rs, rfl, ⟨(hbw.setCell (show w.heap.size ≤ w.heap.size + 1 + 1 by omega) _).setCell (show w.heap.size ≤ w.heap.size + 1 + 1 by omega) _, (C2.other (show w.heap.size + 1 + 1 ≠ _ by omega) _).other (show w.heap.size + 1 + 1 ≠ _ by omega) _, (R2.other (show w.heap.size + 1 + 1 ≠ _ by omega) _).other (show w.heap.size + 1 + 1 ≠ _ by omega) _, by omega, (P2.set 0 _).set 1 _, own_set (own_set O1' L1 (.inl (by simp))) L1 (.inl (by simp)), own_set (own_set O2' L2 (.inl (by omega))) L2 (.inl (by omega)), hne⟩, Q1, Q2⟩)
  case rest =>
    obtain ⟨p, v1, v2, qs, rs, rfl, SJ, Q1, Q2⟩ := hcut
    clear C0 R0
    have c0 := SJ.cb.c0; have c1 := SJ.cb.c1; have cx := SJ.cb.lt
    have HXc := HX.below SJ.bel
    have HTc := HT.below SJ.bel
    cases h1 : validL xs ts with
    | false =>
      have HN := Lib.hid (show scOk xs ts x y = false by unfold scOk; rw [h1]; rfl)
      have H1 := Lib.hid h1
      clear h1
      go_wp2_with fail
      refine (validCurveI_any A B c d xs ts _ HXc HTc).mono ?_
      rintro e w3 ⟨rfl, hb3⟩
      rw [H1.out]
      have SK := SJ.below hb3
      have r0 := SK.rb.c0; have r1 := SK.rb.c1; have z0 := SK.rb.frozen 0; have z1 := SK.rb.frozen 1; have hrl := SK.rb.lt; have hbw := SK.bel
      go_wp2_with fail
      exact bodyPost_ret (v := .tuple #[.agg #[.slice none 0 0, .slice none 0 0], .bool false]) (by simp only [results, Try.results44]; go_simp) rfl (scRes_no HN.out (by repeat' (first | (with_reducible exact Below.refl _ _) | (with_reducible assumption) | (with_reducible refine below_drewN ?_ _) | (with_reducible refine Below.drew ?_) | (with_reducible refine below_alloc ?_ _) | (with_reducible refine Below.setCell ?_ ?_ _) | (with_reducible refine below_then ?_ (by assumption)) | omega | (simp; done) | (simp; omega))))
    | true =>
      have H1 := Lib.hid h1
      have HN : Hid (validL qs rs = scOk xs ts x y) := by
        show _ = _
        unfold scOk
        rw [h1, Bool.true_and, ← validL_cn qs rs, Q1.out, Q2.out]
      clear h1
      go_wp2_with fail
      refine (validCurveI_any A B c d xs ts _ HXc HTc).mono ?_
      rintro e w3 ⟨rfl, hb3⟩
      rw [H1.out]
      have SK := SJ.below hb3
      clear c0 c1 cx HXc HTc SJ
      have hN1 := SK.ne
      have hw1 := SK.o1
      have hw2 := SK.o2
      obtain ⟨A1, c1, rfl, R1⟩ := SK.o1.rdF
      obtain ⟨A2, c2, rfl, R2⟩ := SK.o2.rdF
      have o0 := SK.ob.c0; have o1 := SK.ob.c1
      go_wp2_with fail
      refine (validCurveI_any A1 A2 c1 c2 qs rs _ R1 R2).mono ?_
      rintro e w4 ⟨rfl, hb4⟩
      rw [HN.out]
      have SL := SK.below hb4
      clear o0 o1 hw1 hw2 R1 R2 SK
      have r0 := SL.rb.c0; have r1 := SL.rb.c1; have z0 := SL.rb.frozen 0; have z1 := SL.rb.frozen 1; have hrl := SL.rb.lt; have hbw := SL.bel
      have o0 := SL.ob.c0; have o1 := SL.ob.c1
      have hp := SL.hp
      cases hok : scOk xs ts x y with
      | false =>
        have HK := Lib.hid hok
        clear hok
        go_wp2_with fail
        exact bodyPost_ret (v := .tuple #[.agg #[.slice none 0 0, .slice none 0 0], .bool false]) (by simp only [results, Try.results44]; go_simp) rfl (scRes_no HK.out (by repeat' (first | (with_reducible exact Below.refl _ _) | (with_reducible assumption) | (with_reducible refine below_drewN ?_ _) | (with_reducible refine Below.drew ?_) | (with_reducible refine below_alloc ?_ _) | (with_reducible refine Below.setCell ?_ ?_ _) | (with_reducible refine below_then ?_ (by assumption)) | omega | (simp; done) | (simp; omega))))
      | true =>
        have HK := Lib.hid hok
        clear hok
        have P1 : OwnF w4 (w.heap.size + 2) (.slice A1 qs.length c1) qs := SL.o1
        have P2 : OwnF w4 (w.heap.size + 2) (.slice A2 rs.length c2) rs := SL.o2
        go_wp2_with fail
        exact bodyPost_ret (v := .tuple #[.agg #[.slice A1 qs.length c1, .slice A2 rs.length c2], .bool true]) (by simp only [results, Try.results44]; go_simp) rfl (scRes_yes HK.out (OwnF.mono (ownsRow_setCell_below (ownsRow_setCell_below P1 (by simp) _) (by simp) _) (by omega)) (OwnF.mono (ownsRow_setCell_below (ownsRow_setCell_below P2 (by simp) _) (by simp) _) (by omega)) hN1 Q1.out Q2.out (by repeat' (first | (with_reducible exact Below.refl _ _) | (with_reducible assumption) | (with_reducible refine below_drewN ?_ _) | (with_reducible refine Below.drew ?_) | (with_reducible refine below_alloc ?_ _) | (with_reducible refine Below.setCell ?_ ?_ _) | (with_reducible refine below_then ?_ (by assumption)) | omega | (simp; done) | (simp; omega))))
end Go.Proofs.Ytdkkdohbmpjfdaa
