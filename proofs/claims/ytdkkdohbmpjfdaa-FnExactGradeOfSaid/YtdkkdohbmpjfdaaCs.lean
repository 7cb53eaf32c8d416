/-
  The law FnExactSameCurve, walked.
-/
import Derived.Test.YtdkkdohbmpjfdaaCu
import Derived.Test.YtdkkdohbmpjfdaaSn
import Derived.Deep.DeepCutAuto
namespace Go.Proofs.Ytdkkdohbmpjfdaa
open Go.RowKit Go.Fl Go.Lb

/-- the two arguments' boxes, and what they lead to -/
structure Two (w wx : World) (A B A' B' : Option Addr) (c d c' d' : Nat) (xs ts xs' ts' : List Nat) : Prop where
  ba : Blk wx w.heap.size 51 [.slice A xs.length c, .slice B ts.length d]
  bb : Blk wx (w.heap.size + 1) 51 [.slice A' xs'.length c', .slice B' ts'.length d']
  hx : RdF wx A xs
  ht : RdF wx B ts
  hx' : RdF wx A' xs'
  ht' : RdF wx B' ts'
  bel : Below w.heap.size w wx
section
variable {w wx w1 : World} {A B A' B' : Option Addr} {c d c' d' : Nat} {xs ts xs' ts' : List Nat}
theorem Two.below (h : Two w wx A B A' B' c d c' d' xs ts xs' ts') (hb : Below wx.heap.size wx w1) : Two w w1 A B A' B' c d c' d' xs ts xs' ts' :=
  ⟨h.ba.below hb, h.bb.below hb, h.hx.below hb, h.ht.below hb, h.hx'.below hb, h.ht'.below hb, below_then h.bel hb⟩
theorem Two.start (HX : RdF w A xs) (HT : RdF w B ts) (HX' : RdF w A' xs') (HT' : RdF w B' ts') :
    Two w ((w.alloc (.cells #[.slice A xs.length c, .slice B ts.length d] 51)).alloc (.cells #[.slice A' xs'.length c', .slice B' ts'.length d'] 51)) A B A' B' c d c' d' xs ts xs' ts' := by
  have hb := below_alloc (below_alloc (Below.refl w.heap.size w) (.cells #[.slice A xs.length c, .slice B ts.length d] 51)) (.cells #[.slice A' xs'.length c', .slice B' ts'.length d'] 51)
  exact ⟨(Blk.new w _ [.slice A xs.length c, .slice B ts.length d]).alloc _, by
    have := Blk.new (w.alloc (.cells #[.slice A xs.length c, .slice B ts.length d] 51)) 51 [.slice A' xs'.length c', .slice B' ts'.length d']
    rwa [World.size_alloc] at this, HX.below hb, HT.below hb, HX'.below hb, HT'.below hb, hb⟩
theorem Two.drewS (h : Two w wx A B A' B' c d c' d' xs ts xs' ts') : Two w wx.drew A B A' B' c d c' d' xs ts xs' ts' := h.below (Below.drew (Below.refl _ _))
theorem Two.drewN (h : Two w wx A B A' B' c d c' d' xs ts xs' ts') (n : Nat) : Two w (wx.drewN n) A B A' B' c d c' d' xs ts xs' ts' := h.below (below_drewN (Below.refl _ _) n)
end

set_option maxHeartbeats 4000000 in
theorem fnExactSameCurve_walk (A B A' B' : Option Addr) (c d c' d' : Nat) (xs ts xs' ts' : List Nat) (w : World) (HX : RdF w A xs) (HT : RdF w B ts) (HX' : RdF w A' xs') (HT' : RdF w B' ts')
    (WX : WfL xs) (WT : WfL ts) (WX' : WfL xs') (WT' : WfL ts') :
    Calls Try.prog 9 #[.agg #[.slice A xs.length c, .slice B ts.length d], .agg #[.slice A' xs'.length c', .slice B' ts'.length d']] w fun e w' => e = .returned (.bool true) ∧ Below w.heap.size w w' := by
  have hm := HX.1
  have hm2 := HT.1
  have hm' := HX'.1
  have hm2' := HT'.1
  have T0 := Two.start (c := c) (d := d) (c' := c') (d' := d') HX HT HX' HT'
  rcases szC_le (left := 1048576) (n := xs.length) (m := ts.length) (by omega) (by omega) with hz | ⟨hz, hz1, hz2⟩
  · go_enter Try.func9, Try.ntmps9
    go_wp2_with fail
    (refine (szCurve_any _ _ _ _ _ _ _ _ hm hm2 (by omega) (by omega)).mono ?_; rintro e w1 ⟨rfl, hb1⟩; have hz1 := hb1.size; (try simp at hz1))
    go_wp2_with fail
    go_ret
    exact ⟨rfl, (by repeat' (first | (with_reducible exact Below.refl _ _) | (with_reducible assumption) | (with_reducible refine below_drewN ?_ _) | (with_reducible refine Below.drew ?_) | (with_reducible refine below_alloc ?_ _) | (with_reducible refine Below.setCell ?_ ?_ _) | (with_reducible refine below_then ?_ (by assumption)) | omega | (simp; done) | (simp; omega)))⟩
  · have HZ := Lib.hid hz
    clear hz
    rcases szC_le (left := 1048576 - xs.length - ts.length) (n := xs'.length) (m := ts'.length) (by omega) (by omega) with hz | ⟨hz, hz3, hz4⟩
    · go_enter Try.func9, Try.ntmps9
      go_wp2_with fail
      (refine (szCurve_any _ _ _ _ _ _ _ _ hm hm2 (by omega) (by omega)).mono ?_; rintro e w1 ⟨rfl, hb1⟩; rw [HZ.out]; have hz1 := hb1.size; (try simp at hz1); obtain ⟨hc1_0, hf1_0, hx1_0⟩ := bcell0 hb1 w.heap.size (by first | assumption | omega | (simp; done) | (simp; omega)); obtain ⟨hc1_1, hf1_1, hx1_1⟩ := bcell0 hb1 (w.heap.size + 1) (by first | assumption | omega | (simp; done) | (simp; omega)))
      go_wp2_with fail
      (refine (szCurve_any _ _ _ _ _ _ _ _ hm' hm2' (by omega) (by omega)).mono ?_; rintro e w2 ⟨rfl, hb2⟩; have hz2 := hb2.size; (try simp at hz2))
      go_wp2_with fail
      go_ret
      exact ⟨rfl, (by repeat' (first | (with_reducible exact Below.refl _ _) | (with_reducible assumption) | (with_reducible refine below_drewN ?_ _) | (with_reducible refine Below.drew ?_) | (with_reducible refine below_alloc ?_ _) | (with_reducible refine Below.setCell ?_ ?_ _) | (with_reducible refine below_then ?_ (by assumption)) | omega | (simp; done) | (simp; omega)))⟩
    · have HZ2 := Lib.hid hz
      clear hz
      have hl : xs.length ≤ 1048576 := by omega
      have hl2 : ts.length ≤ 1048576 := by omega
      have hl' : xs'.length ≤ 1048576 := by omega
      have hl2' : ts'.length ≤ 1048576 := by omega
      obtain ⟨R, hR⟩ : ∃ R, (sameLB xs xs' && sameLB ts ts') = R := ⟨_, rfl⟩
      have HR := Lib.hid hR
      clear hR
      go_enter Try.func9, Try.ntmps9
      go_wp2_with fail
      (refine (szCurve_any _ _ _ _ _ _ _ _ hm hm2 (by omega) (by omega)).mono ?_; rintro e w1 ⟨rfl, hb1⟩; rw [HZ.out]; have T1 := T0.below hb1; have hz1 := hb1.size; (try simp at hz1); obtain ⟨hc1_0, hf1_0, hx1_0⟩ := bcell0 hb1 w.heap.size (by first | assumption | omega | (simp; done) | (simp; omega)); obtain ⟨hc1_1, hf1_1, hx1_1⟩ := bcell0 hb1 (w.heap.size + 1) (by first | assumption | omega | (simp; done) | (simp; omega)))
      go_wp2_with fail
      (refine (szCurve_any _ _ _ _ _ _ _ _ hm' hm2' (by omega) (by omega)).mono ?_; rintro e w2 ⟨rfl, hb2⟩; rw [HZ2.out]; have T2 := T1.below hb2; have hz2 := hb2.size; (try simp at hz2); obtain ⟨hc2_0, hf2_0, hx2_0⟩ := bcell0 hb2 w.heap.size (by first | assumption | omega | (simp; done) | (simp; omega)); obtain ⟨hc2_1, hf2_1, hx2_1⟩ := bcell0 hb2 (w.heap.size + 1) (by first | assumption | omega | (simp; done) | (simp; omega)))
      clear hb1 hb2 hc1_0 hf1_0 hx1_0 hc1_1 hf1_1 hx1_1 hc2_0 hf2_0 hx2_0 hc2_1 hf2_1 hx2_1 T0 T1
      have q0 := T2.ba.c0; have q1 := T2.ba.c1; have q2 := T2.bb.c0; have q3 := T2.bb.c1
      go_upto_region 8 with fail
      go_cut [6] (fun s6 wx => s6 = .bool R ∧ Two w wx A B A' B' c d c' d' xs ts xs' ts')
      case first =>
        go_region_with (first
          | (go_at_call_of 33 (Value.slice A xs.length c); (refine (toCurve_any _ _ _ _ xs ts _ (T2.hx.below (by repeat' (first | (with_reducible exact Below.refl _ _) | (with_reducible assumption) | (with_reducible refine below_drewN ?_ _) | (with_reducible refine Below.drew ?_) | (with_reducible refine below_alloc ?_ _) | (with_reducible refine Below.setCell ?_ ?_ _) | (with_reducible refine below_then ?_ (by assumption)) | exact below_then (Below.drew (Below.refl _ _)) (by assumption) | omega | (simp; done) | (simp; omega)))) (T2.ht.below (by repeat' (first | (with_reducible exact Below.refl _ _) | (with_reducible assumption) | (with_reducible refine below_drewN ?_ _) | (with_reducible refine Below.drew ?_) | (with_reducible refine below_alloc ?_ _) | (with_reducible refine Below.setCell ?_ ?_ _) | (with_reducible refine below_then ?_ (by assumption)) | exact below_then (Below.drew (Below.refl _ _)) (by assumption) | omega | (simp; done) | (simp; omega)))) hl hl2).mono ?_; rintro e w5 ⟨g5, k5, rfl, G5, K5, hgk5, hg5, hk5, hb5⟩; have T5 := (Two.below (by first | exact T2.drewS | exact T2) hb5); have p2 := T5.bb.c0; have p3 := T5.bb.c1; have hz5 := hb5.size; (try simp at hz5)))
          | (go_at_call_of 33 (Value.slice A' xs'.length c'); (refine (toCurve_any _ _ _ _ xs' ts' _ (T5.hx'.below (by repeat' (first | (with_reducible exact Below.refl _ _) | (with_reducible assumption) | (with_reducible refine below_drewN ?_ _) | (with_reducible refine Below.drew ?_) | (with_reducible refine below_alloc ?_ _) | (with_reducible refine Below.setCell ?_ ?_ _) | (with_reducible refine below_then ?_ (by assumption)) | exact below_then (Below.drew (Below.refl _ _)) (by assumption) | omega | (simp; done) | (simp; omega)))) (T5.ht'.below (by repeat' (first | (with_reducible exact Below.refl _ _) | (with_reducible assumption) | (with_reducible refine below_drewN ?_ _) | (with_reducible refine Below.drew ?_) | (with_reducible refine below_alloc ?_ _) | (with_reducible refine Below.setCell ?_ ?_ _) | (with_reducible refine below_then ?_ (by assumption)) | exact below_then (Below.drew (Below.refl _ _)) (by assumption) | omega | (simp; done) | (simp; omega)))) hl' hl2').mono ?_; rintro e w6 ⟨g6, k6, rfl, G6, K6, hgk6, hg6, hk6, hb6⟩; have T6 := T5.below hb6; have D5 := (G5.below hb6).rdF hm; have E5 := (K5.below hb6).rdF hm2; have D6 := G6.rdF hm'; have E6 := K6.rdF hm2'; have hz6 := hb6.size; (try simp at hz6)))
          | (go_at_call 36; (refine (sameCurveS_any _ _ _ _ _ _ _ _ xs ts xs' ts' _ D5 E5 D6 E6 WX WT WX' WT').mono ?_; rintro e w7 ⟨rfl, hb7⟩; rw [HR.out]; have T7 := T6.below hb7; have hz7 := hb7.size; (try simp at hz7))))
        all_goals
          go_wp2_with fail
          go_meet
          exact ⟨rfl, T7⟩
      case rest =>
        obtain ⟨rfl, T3⟩ := hcut
        clear T2 q0 q1 q2 q3
        have q0 := T3.ba.c0; have q1 := T3.ba.c1; have q2 := T3.bb.c0; have q3 := T3.bb.c1
        go_wp2_with fail
        (refine (toCurve_any _ _ _ _ xs ts _ T3.hx T3.ht hl hl2).mono ?_; rintro e w8 ⟨g8, k8, rfl, G8, K8, hgk8, hg8, hk8, hb8⟩; have T8 := T3.below hb8; have hz8 := hb8.size; (try simp at hz8))
        clear q0 q1 q2 q3
        have q2 := T8.bb.c0; have q3 := T8.bb.c1; have y1 := T8.bb.lt
        go_wp2_with fail
        (refine (toCurve_any _ _ _ _ xs' ts' _ (T8.hx'.below (by repeat' (first | (with_reducible exact Below.refl _ _) | (with_reducible assumption) | (with_reducible refine below_drewN ?_ _) | (with_reducible refine Below.drew ?_) | (with_reducible refine below_alloc ?_ _) | (with_reducible refine Below.setCell ?_ ?_ _) | (with_reducible refine below_then ?_ (by assumption)) | exact below_then (Below.drew (Below.refl _ _)) (by assumption) | omega | (simp; done) | (simp; omega)))) (T8.ht'.below (by repeat' (first | (with_reducible exact Below.refl _ _) | (with_reducible assumption) | (with_reducible refine below_drewN ?_ _) | (with_reducible refine Below.drew ?_) | (with_reducible refine below_alloc ?_ _) | (with_reducible refine Below.setCell ?_ ?_ _) | (with_reducible refine below_then ?_ (by assumption)) | exact below_then (Below.drew (Below.refl _ _)) (by assumption) | omega | (simp; done) | (simp; omega)))) hl' hl2').mono ?_; rintro e w9 ⟨g9, k9, rfl, G9, K9, hgk9, hg9, hk9, hb9⟩; have T9 := (T8.below (below_alloc (Below.refl _ _) _)).below hb9; have X0 : Blk w9 w8.heap.size 54 [.slice (some ⟨g8, 0, none⟩) xs.length xs.length, .slice (some ⟨k8, 0, none⟩) ts.length ts.length] := Blk.below (by repeat' (first | (with_reducible assumption) | (with_reducible exact Blk.new _ _ _) | (with_reducible refine Blk.alloc ?_ _) | (with_reducible refine Blk.drewN ?_ _) | (with_reducible refine Blk.drewS ?_) | (with_reducible apply Blk.set3) | (with_reducible refine Blk.other ?_ ?_ _) | omega | (simp; done) | (simp; omega))) hb9; have G8b : Blk w9 g8 22 (xs.map fv32) := Blk.below (by repeat' (first | (with_reducible assumption) | (with_reducible exact Blk.new _ _ _) | (with_reducible refine Blk.alloc ?_ _) | (with_reducible refine Blk.drewN ?_ _) | (with_reducible refine Blk.drewS ?_) | (with_reducible apply Blk.set3) | (with_reducible refine Blk.other ?_ ?_ _) | omega | (simp; done) | (simp; omega))) hb9; have K8b : Blk w9 k8 22 (ts.map fv32) := Blk.below (by repeat' (first | (with_reducible assumption) | (with_reducible exact Blk.new _ _ _) | (with_reducible refine Blk.alloc ?_ _) | (with_reducible refine Blk.drewN ?_ _) | (with_reducible refine Blk.drewS ?_) | (with_reducible apply Blk.set3) | (with_reducible refine Blk.other ?_ ?_ _) | omega | (simp; done) | (simp; omega))) hb9; have hz9 := hb9.size; (try simp at hz9))
        clear q2 q3 y1
        have u0 := X0.c0; have u1 := X0.c1; have y2 := X0.lt
        go_wp2_with fail
        (refine (sameCurveI_any _ _ _ _ _ _ _ _ xs ts xs' ts' _ ((G8b.rdF hm).below (by repeat' (first | (with_reducible exact Below.refl _ _) | (with_reducible assumption) | (with_reducible refine below_drewN ?_ _) | (with_reducible refine Below.drew ?_) | (with_reducible refine below_alloc ?_ _) | (with_reducible refine Below.setCell ?_ ?_ _) | (with_reducible refine below_then ?_ (by assumption)) | exact below_then (Below.drew (Below.refl _ _)) (by assumption) | omega | (simp; done) | (simp; omega)))) ((K8b.rdF hm2).below (by repeat' (first | (with_reducible exact Below.refl _ _) | (with_reducible assumption) | (with_reducible refine below_drewN ?_ _) | (with_reducible refine Below.drew ?_) | (with_reducible refine below_alloc ?_ _) | (with_reducible refine Below.setCell ?_ ?_ _) | (with_reducible refine below_then ?_ (by assumption)) | exact below_then (Below.drew (Below.refl _ _)) (by assumption) | omega | (simp; done) | (simp; omega)))) ((G9.rdF hm').below (by repeat' (first | (with_reducible exact Below.refl _ _) | (with_reducible assumption) | (with_reducible refine below_drewN ?_ _) | (with_reducible refine Below.drew ?_) | (with_reducible refine below_alloc ?_ _) | (with_reducible refine Below.setCell ?_ ?_ _) | (with_reducible refine below_then ?_ (by assumption)) | exact below_then (Below.drew (Below.refl _ _)) (by assumption) | omega | (simp; done) | (simp; omega)))) ((K9.rdF hm2').below (by repeat' (first | (with_reducible exact Below.refl _ _) | (with_reducible assumption) | (with_reducible refine below_drewN ?_ _) | (with_reducible refine Below.drew ?_) | (with_reducible refine below_alloc ?_ _) | (with_reducible refine Below.setCell ?_ ?_ _) | (with_reducible refine below_then ?_ (by assumption)) | exact below_then (Below.drew (Below.refl _ _)) (by assumption) | omega | (simp; done) | (simp; omega))))).mono ?_; rintro e w10 ⟨rfl, hb10⟩; rw [HR.out]; have T10 := (T9.below (below_alloc (Below.refl _ _) _)).below hb10; have X0c : Blk w10 w8.heap.size 54 [.slice (some ⟨g8, 0, none⟩) xs.length xs.length, .slice (some ⟨k8, 0, none⟩) ts.length ts.length] := Blk.below (by repeat' (first | (with_reducible assumption) | (with_reducible exact Blk.new _ _ _) | (with_reducible refine Blk.alloc ?_ _) | (with_reducible refine Blk.drewN ?_ _) | (with_reducible refine Blk.drewS ?_) | (with_reducible apply Blk.set3) | (with_reducible refine Blk.other ?_ ?_ _) | omega | (simp; done) | (simp; omega))) hb10; have X1c : Blk w10 w9.heap.size 54 [.slice (some ⟨g9, 0, none⟩) xs'.length xs'.length, .slice (some ⟨k9, 0, none⟩) ts'.length ts'.length] := Blk.below (by repeat' (first | (with_reducible assumption) | (with_reducible exact Blk.new _ _ _) | (with_reducible refine Blk.alloc ?_ _) | (with_reducible refine Blk.drewN ?_ _) | (with_reducible refine Blk.drewS ?_) | (with_reducible apply Blk.set3) | (with_reducible refine Blk.other ?_ ?_ _) | omega | (simp; done) | (simp; omega))) hb10; have G8c : Blk w10 g8 22 (xs.map fv32) := Blk.below (by repeat' (first | (with_reducible assumption) | (with_reducible exact Blk.new _ _ _) | (with_reducible refine Blk.alloc ?_ _) | (with_reducible refine Blk.drewN ?_ _) | (with_reducible refine Blk.drewS ?_) | (with_reducible apply Blk.set3) | (with_reducible refine Blk.other ?_ ?_ _) | omega | (simp; done) | (simp; omega))) hb10; have K8c : Blk w10 k8 22 (ts.map fv32) := Blk.below (by repeat' (first | (with_reducible assumption) | (with_reducible exact Blk.new _ _ _) | (with_reducible refine Blk.alloc ?_ _) | (with_reducible refine Blk.drewN ?_ _) | (with_reducible refine Blk.drewS ?_) | (with_reducible apply Blk.set3) | (with_reducible refine Blk.other ?_ ?_ _) | omega | (simp; done) | (simp; omega))) hb10; have G9c : Blk w10 g9 22 (xs'.map fv32) := Blk.below (by repeat' (first | (with_reducible assumption) | (with_reducible exact Blk.new _ _ _) | (with_reducible refine Blk.alloc ?_ _) | (with_reducible refine Blk.drewN ?_ _) | (with_reducible refine Blk.drewS ?_) | (with_reducible apply Blk.set3) | (with_reducible refine Blk.other ?_ ?_ _) | omega | (simp; done) | (simp; omega))) hb10; have K9c : Blk w10 k9 22 (ts'.map fv32) := Blk.below (by repeat' (first | (with_reducible assumption) | (with_reducible exact Blk.new _ _ _) | (with_reducible refine Blk.alloc ?_ _) | (with_reducible refine Blk.drewN ?_ _) | (with_reducible refine Blk.drewS ?_) | (with_reducible apply Blk.set3) | (with_reducible refine Blk.other ?_ ?_ _) | omega | (simp; done) | (simp; omega))) hb10; have hz10 := hb10.size; (try simp at hz10))
        clear u0 u1 y2 X0 G8b K8b G9 K9 G8 K8 T8 T9 T3 hb8 hb9 hb10 hz8 hz9 hz10
        have q0 := T10.ba.c0; have q1 := T10.ba.c1; have q2 := T10.bb.c0; have q3 := T10.bb.c1
        have u0 := X0c.c0; have u1 := X0c.c1; have v0 := X1c.c0; have v1 := X1c.c1
        go_upto_region 14 with fail
        go_cut [39] (fun s39 wx => s39 = .bool false ∧ Two w wx A B A' B' c d c' d' xs ts xs' ts' ∧ Blk wx w9.heap.size 54 [.slice (some ⟨g9, 0, none⟩) xs'.length xs'.length, .slice (some ⟨k9, 0, none⟩) ts'.length ts'.length] ∧ Blk wx g9 22 (xs'.map fv32) ∧ Blk wx k9 22 (ts'.map fv32))
        case first =>
          go_region_with (first
            | (go_at_call 33; (refine (toCurve_any _ _ _ _ xs ts _ (T10.hx.below (by repeat' (first | (with_reducible exact Below.refl _ _) | (with_reducible assumption) | (with_reducible refine below_drewN ?_ _) | (with_reducible refine Below.drew ?_) | (with_reducible refine below_alloc ?_ _) | (with_reducible refine Below.setCell ?_ ?_ _) | (with_reducible refine below_then ?_ (by assumption)) | exact below_then (Below.drew (Below.refl _ _)) (by assumption) | omega | (simp; done) | (simp; omega)))) (T10.ht.below (by repeat' (first | (with_reducible exact Below.refl _ _) | (with_reducible assumption) | (with_reducible refine below_drewN ?_ _) | (with_reducible refine Below.drew ?_) | (with_reducible refine below_alloc ?_ _) | (with_reducible refine Below.setCell ?_ ?_ _) | (with_reducible refine below_then ?_ (by assumption)) | exact below_then (Below.drew (Below.refl _ _)) (by assumption) | omega | (simp; done) | (simp; omega)))) hl hl2).mono ?_; rintro e w11 ⟨g11, k11, rfl, G11, K11, hgk11, hg11, hk11, hb11⟩; have T11 := (Two.below (by first | exact T10.drewS | exact T10) hb11); have X0d : Blk w11 w8.heap.size 54 [.slice (some ⟨g8, 0, none⟩) xs.length xs.length, .slice (some ⟨k8, 0, none⟩) ts.length ts.length] := Blk.below (by repeat' (first | (with_reducible assumption) | (with_reducible exact Blk.new _ _ _) | (with_reducible refine Blk.alloc ?_ _) | (with_reducible refine Blk.drewN ?_ _) | (with_reducible refine Blk.drewS ?_) | (with_reducible apply Blk.set3) | (with_reducible refine Blk.other ?_ ?_ _) | omega | (simp; done) | (simp; omega))) hb11; have u2 := X0d.c0; have u3 := X0d.c1; have X1d : Blk w11 w9.heap.size 54 [.slice (some ⟨g9, 0, none⟩) xs'.length xs'.length, .slice (some ⟨k9, 0, none⟩) ts'.length ts'.length] := Blk.below (by repeat' (first | (with_reducible assumption) | (with_reducible exact Blk.new _ _ _) | (with_reducible refine Blk.alloc ?_ _) | (with_reducible refine Blk.drewN ?_ _) | (with_reducible refine Blk.drewS ?_) | (with_reducible apply Blk.set3) | (with_reducible refine Blk.other ?_ ?_ _) | omega | (simp; done) | (simp; omega))) hb11; have G8d : Blk w11 g8 22 (xs.map fv32) := Blk.below (by repeat' (first | (with_reducible assumption) | (with_reducible exact Blk.new _ _ _) | (with_reducible refine Blk.alloc ?_ _) | (with_reducible refine Blk.drewN ?_ _) | (with_reducible refine Blk.drewS ?_) | (with_reducible apply Blk.set3) | (with_reducible refine Blk.other ?_ ?_ _) | omega | (simp; done) | (simp; omega))) hb11; have K8d : Blk w11 k8 22 (ts.map fv32) := Blk.below (by repeat' (first | (with_reducible assumption) | (with_reducible exact Blk.new _ _ _) | (with_reducible refine Blk.alloc ?_ _) | (with_reducible refine Blk.drewN ?_ _) | (with_reducible refine Blk.drewS ?_) | (with_reducible apply Blk.set3) | (with_reducible refine Blk.other ?_ ?_ _) | omega | (simp; done) | (simp; omega))) hb11; have G9d : Blk w11 g9 22 (xs'.map fv32) := Blk.below (by repeat' (first | (with_reducible assumption) | (with_reducible exact Blk.new _ _ _) | (with_reducible refine Blk.alloc ?_ _) | (with_reducible refine Blk.drewN ?_ _) | (with_reducible refine Blk.drewS ?_) | (with_reducible apply Blk.set3) | (with_reducible refine Blk.other ?_ ?_ _) | omega | (simp; done) | (simp; omega))) hb11; have K9d : Blk w11 k9 22 (ts'.map fv32) := Blk.below (by repeat' (first | (with_reducible assumption) | (with_reducible exact Blk.new _ _ _) | (with_reducible refine Blk.alloc ?_ _) | (with_reducible refine Blk.drewN ?_ _) | (with_reducible refine Blk.drewS ?_) | (with_reducible apply Blk.set3) | (with_reducible refine Blk.other ?_ ?_ _) | omega | (simp; done) | (simp; omega))) hb11; have hz11 := hb11.size; (try simp at hz11)))
            | (go_at_call 35; (refine (eqCurve_any _ _ _ _ _ _ _ _ xs ts xs ts _ (G8d.rdF hm) (K8d.rdF hm2) (G11.rdF hm) (K11.rdF hm2) (SameL.refl _) (SameL.refl _)).mono ?_; rintro e w12 ⟨rfl, hb12⟩; have hz12 := hb12.size; (try simp at hz12))))
          all_goals
            go_wp2_with fail
            go_meet
            exact ⟨rfl, T11.below hb12, X1d.below hb12, G9d.below hb12, K9d.below hb12⟩
        case rest =>
          obtain ⟨rfl, T13, X1e, G9e, K9e⟩ := hcut
          clear T10 X0c X1c G8c K8c G9c K9c q0 q1 q2 q3 u0 u1 v0 v1
          have q2 := T13.bb.c0; have q3 := T13.bb.c1
          have v0 := X1e.c0; have v1 := X1e.c1
          go_upto_region 16 with fail
          go_cut [44] (fun s44 wx => s44 = .bool false ∧ Below w.heap.size w wx)
          case first =>
            go_region_with (first
              | (go_at_call 33; (refine (toCurve_any _ _ _ _ xs' ts' _ (T13.hx'.below (by repeat' (first | (with_reducible exact Below.refl _ _) | (with_reducible assumption) | (with_reducible refine below_drewN ?_ _) | (with_reducible refine Below.drew ?_) | (with_reducible refine below_alloc ?_ _) | (with_reducible refine Below.setCell ?_ ?_ _) | (with_reducible refine below_then ?_ (by assumption)) | exact below_then (Below.drew (Below.refl _ _)) (by assumption) | omega | (simp; done) | (simp; omega)))) (T13.ht'.below (by repeat' (first | (with_reducible exact Below.refl _ _) | (with_reducible assumption) | (with_reducible refine below_drewN ?_ _) | (with_reducible refine Below.drew ?_) | (with_reducible refine below_alloc ?_ _) | (with_reducible refine Below.setCell ?_ ?_ _) | (with_reducible refine below_then ?_ (by assumption)) | exact below_then (Below.drew (Below.refl _ _)) (by assumption) | omega | (simp; done) | (simp; omega)))) hl' hl2').mono ?_; rintro e w14 ⟨g14, k14, rfl, G14, K14, hgk14, hg14, hk14, hb14⟩; have T14 := (Two.below (by first | exact T13.drewS | exact T13) hb14); have X1f : Blk w14 w9.heap.size 54 [.slice (some ⟨g9, 0, none⟩) xs'.length xs'.length, .slice (some ⟨k9, 0, none⟩) ts'.length ts'.length] := Blk.below (by repeat' (first | (with_reducible assumption) | (with_reducible exact Blk.new _ _ _) | (with_reducible refine Blk.alloc ?_ _) | (with_reducible refine Blk.drewN ?_ _) | (with_reducible refine Blk.drewS ?_) | (with_reducible apply Blk.set3) | (with_reducible refine Blk.other ?_ ?_ _) | omega | (simp; done) | (simp; omega))) hb14; have v2 := X1f.c0; have v3 := X1f.c1; have G9f : Blk w14 g9 22 (xs'.map fv32) := Blk.below (by repeat' (first | (with_reducible assumption) | (with_reducible exact Blk.new _ _ _) | (with_reducible refine Blk.alloc ?_ _) | (with_reducible refine Blk.drewN ?_ _) | (with_reducible refine Blk.drewS ?_) | (with_reducible apply Blk.set3) | (with_reducible refine Blk.other ?_ ?_ _) | omega | (simp; done) | (simp; omega))) hb14; have K9f : Blk w14 k9 22 (ts'.map fv32) := Blk.below (by repeat' (first | (with_reducible assumption) | (with_reducible exact Blk.new _ _ _) | (with_reducible refine Blk.alloc ?_ _) | (with_reducible refine Blk.drewN ?_ _) | (with_reducible refine Blk.drewS ?_) | (with_reducible apply Blk.set3) | (with_reducible refine Blk.other ?_ ?_ _) | omega | (simp; done) | (simp; omega))) hb14; have hz14 := hb14.size; (try simp at hz14)))
              | (go_at_call 35; (refine (eqCurve_any _ _ _ _ _ _ _ _ xs' ts' xs' ts' _ (G9f.rdF hm') (K9f.rdF hm2') (G14.rdF hm') (K14.rdF hm2') (SameL.refl _) (SameL.refl _)).mono ?_; rintro e w15 ⟨rfl, hb15⟩; have hz15 := hb15.size; (try simp at hz15))))
            all_goals
              go_wp2_with fail
              go_meet
              exact ⟨rfl, below_then T14.bel hb15⟩
          case rest =>
            obtain ⟨rfl, HB⟩ := hcut
            go_wp2_with fail
            go_ret
            exact ⟨rfl, (by repeat' (first | (with_reducible exact Below.refl _ _) | (with_reducible assumption) | (with_reducible refine below_drewN ?_ _) | (with_reducible refine Below.drew ?_) | (with_reducible refine below_alloc ?_ _) | (with_reducible refine Below.setCell ?_ ?_ _) | (with_reducible refine below_then ?_ (by assumption)) | omega | (simp; done) | (simp; omega)))⟩
end Go.Proofs.Ytdkkdohbmpjfdaa
