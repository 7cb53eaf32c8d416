/-
  The law FnExactScaleCurve, walked.
-/
import Derived.Test.YtdkkdohbmpjfdaaSd
import Derived.Deep.DeepCutAuto
namespace Go.Proofs.Ytdkkdohbmpjfdaa
open Go.RowKit Go.Fl Go.Lb

theorem scX_length {ok : Bool} {xs : List Nat} {x : Nat} (h : ok = true → xs.length ≤ 16) : (scX ok xs x).length ≤ 16 := by
  cases ok with
  | false => simp [scX]
  | true => simpa [scX] using h rfl
theorem scOk_len {xs ts : List Nat} {x y : Nat} (h : scOk xs ts x y = true) : xs.length ≤ 16 ∧ ts.length ≤ 16 := by
  unfold scOk validL at h
  simp only [Bool.and_eq_true] at h
  obtain ⟨h1, h2, h3⟩ := sizeOk_iff h.1.1
  omega
theorem markOwn_wi {w : World} {B lo hi : Nat} {v : Value} {xs : List Nat} (a : Nat) (h : OwnF w B v xs) (hr : InR v lo hi) (hl : xs.length ≤ 1048576) (ha : a ≤ 2097152) :
    Calls Try.prog 29 #[v, .int .i64 a] w fun e w' => e = .returned (.int .i64 ((a + xs.length : Nat) : Int)) ∧ OwnF w' B v (marks a xs.length) ∧ w.grownBy w' v.ownBlock ∧ Wi lo hi w w' := by
  refine (markOwn_any a h hl ha).mono ?_
  rintro e w' ⟨rfl, ho, hg⟩
  exact ⟨rfl, ho, hg, Wi.of_grown hg hr⟩
set_option maxHeartbeats 1000000 in
theorem markCurve_any {w : World} {B lo hi : Nat} {A1 A2 : Option Addr} {c1 c2 : Nat} {qs rs : List Nat} (a : Nat) (h1 : OwnF w B (.slice A1 qs.length c1) qs) (h2 : OwnF w B (.slice A2 rs.length c2) rs)
    (hn : (Value.slice A1 qs.length c1).ownBlock = none ∨ (Value.slice A1 qs.length c1).ownBlock ≠ (Value.slice A2 rs.length c2).ownBlock) (r1 : InR (.slice A1 qs.length c1) lo hi) (r2 : InR (.slice A2 rs.length c2) lo hi)
    (hl1 : qs.length ≤ 1048576) (hl2 : rs.length ≤ 1048576) (ha : a ≤ 1048576) :
    Calls Try.prog 45 #[.agg #[.slice A1 qs.length c1, .slice A2 rs.length c2], .int .i64 a] w fun e w' => e = .returned (.int .i64 ((a + qs.length + rs.length : Nat) : Int)) ∧ OwnF w' B (.slice A1 qs.length c1) (marks a qs.length) ∧ OwnF w' B (.slice A2 rs.length c2) (marks (a + qs.length) rs.length) ∧ Wi lo hi w w' := by
  have HN := Lib.hid hn
  have R1 := Lib.hid r1
  have R2 := Lib.hid r2
  clear hn r1 r2
  have X0 := Blk.new w 54 [.slice A1 qs.length c1, .slice A2 rs.length c2]
  have O1 := OwnF.below h1 (below_alloc (Below.refl _ _) (.cells #[.slice A1 qs.length c1, .slice A2 rs.length c2] 54))
  have O2 := OwnF.below h2 (below_alloc (Below.refl _ _) (.cells #[.slice A1 qs.length c1, .slice A2 rs.length c2] 54))
  have L1 : ∀ k, (Value.slice A1 qs.length c1).ownBlock = some k → k < w.heap.size := fun k hk => (World.ownsRow.lt h1 k hk).2
  have L2 : ∀ k, (Value.slice A2 rs.length c2).ownBlock = some k → k < w.heap.size := fun k hk => (World.ownsRow.lt h2 k hk).2
  have HW0 : Wi lo hi w (w.alloc (.cells #[.slice A1 qs.length c1, .slice A2 rs.length c2] 54)) := Wi.of_below (below_alloc (Below.refl _ _) _)
  have N1 : some w.heap.size ≠ (Value.slice A1 qs.length c1).ownBlock := fun e => by have := L1 _ e.symm; omega
  have N2 : some w.heap.size ≠ (Value.slice A2 rs.length c2).ownBlock := fun e => by have := L2 _ e.symm; omega
  have NN : (Value.slice A2 rs.length c2).ownBlock = none ∨ (Value.slice A2 rs.length c2).ownBlock ≠ (Value.slice A1 qs.length c1).ownBlock := by
    rcases HN.out with h | h
    · cases h2 : (Value.slice A2 rs.length c2).ownBlock with
      | none => exact .inl rfl
      | some k => rw [h]; exact .inr (by simp)
    · exact .inr fun e => h e.symm
  have NS := Lib.hid (And.intro N1 (And.intro N2 NN))
  clear L1 L2 N1 N2 NN
  go_enter Try.func45, Try.ntmps45
  go_wp2_with fail
  refine (markOwn_wi a O1 R1.out hl1 (by omega)).mono ?_
  rintro e w1 ⟨rfl, M1, hg1, hw1⟩
  have O2 := OwnF.grown O2 hg1 NS.out.2.2
  have X1 := Blk.grown X0 hg1 NS.out.1
  have HW1 := HW0.trans hw1
  clear hg1 hw1 X0 O1 HW0
  obtain ⟨z, hz⟩ : ∃ z, a + qs.length = z := ⟨_, rfl⟩
  have hz1 : z ≤ 2097152 := by omega
  rw [hz]
  have HZ := Lib.hid hz
  clear hz
  have c1' := X1.c1
  go_wp2_with fail
  refine (markOwn_wi z O2 R2.out hl2 (by omega)).mono ?_
  rintro e w2 ⟨rfl, M2, hg2, hw2⟩
  have M1 := OwnF.grown M1 hg2 HN.out
  have HW2 := HW1.trans hw2
  clear hg2 hw2 c1' X1 HW1 O2
  obtain ⟨y, hy⟩ : ∃ y, z + rs.length = y := ⟨_, rfl⟩
  rw [hy]
  have HY := Lib.hid hy
  clear hy
  go_wp2_with fail
  go_ret
  exact ⟨ret_int (by rw [← HY.out, ← HZ.out]), M1, by rw [HZ.out]; exact M2, HW2⟩
set_option maxHeartbeats 1000000 in
theorem heldCurve_any {w : World} {B n m : Nat} {A1 A2 : Option Addr} {c1 c2 : Nat} (a : Nat) (h1 : OwnF w B (.slice A1 n c1) (marks a n)) (h2 : OwnF w B (.slice A2 m c2) (marks (a + n) m)) (hl1 : n ≤ 16) (hl2 : m ≤ 16) (ha : a ≤ 10) :
    Calls Try.prog 46 #[.agg #[.slice A1 n c1, .slice A2 m c2], .int .i64 a] w fun e w' => e = .returned (.int .i64 ((a + n + m : Nat) : Int)) ∧ Below w.heap.size w w' := by
  have O1 := OwnF.below h1 (below_alloc (Below.refl _ _) (.cells #[.slice A1 n c1, .slice A2 m c2] 54))
  have O2 := OwnF.below h2 (below_alloc (Below.refl _ _) (.cells #[.slice A1 n c1, .slice A2 m c2] 54))
  go_enter Try.func46, Try.ntmps46
  go_wp2_with fail
  refine (heldOwn_any a n O1 (by omega) (by omega)).mono ?_
  rintro e w' ⟨rfl, rfl⟩
  obtain ⟨z, hz⟩ : ∃ z, a + n = z := ⟨_, rfl⟩
  have hz1 : z ≤ 26 := by omega
  rw [hz] at O2 ⊢
  have HZ := Lib.hid hz
  clear hz h2
  go_wp2_with fail
  refine (heldOwn_any z m O2 (by omega) (by omega)).mono ?_
  rintro e w' ⟨rfl, rfl⟩
  obtain ⟨y, hy⟩ : ∃ y, z + m = y := ⟨_, rfl⟩
  rw [hy]
  have HY := Lib.hid hy
  clear hy
  go_wp2_with fail
  go_ret
  exact ⟨ret_int (by rw [← HY.out, ← HZ.out]), (by repeat' (first | (with_reducible exact Below.refl _ _) | (with_reducible assumption) | (with_reducible refine below_drewN ?_ _) | (with_reducible refine Below.drew ?_) | (with_reducible refine below_alloc ?_ _) | (with_reducible refine Below.setCell ?_ ?_ _) | (with_reducible refine below_then ?_ (by assumption)) | omega | (simp; done) | (simp; omega)))⟩

structure LSt (w wx : World) (A B : Option Addr) (c d : Nat) (xs ts : List Nat) (p8 p10 p11 : Nat) (u1 u2 v1 v2 : Value) (ls ks qs rs : List Nat) : Prop where
  bel : Below w.heap.size w wx
  ab : Blk wx w.heap.size 51 [.slice A xs.length c, .slice B ts.length d]
  b8 : Blk wx p8 54 [u1, u2]
  b11 : Blk wx p11 54 [v1, v2]
  o1 : OwnF wx w.heap.size u1 ls
  o2 : OwnF wx w.heap.size u2 ks
  r1 : InR u1 0 p8
  r2 : InR u2 0 p8
  g1 : OwnF wx w.heap.size v1 qs
  g2 : OwnF wx w.heap.size v2 rs
  s1 : InR v1 (p10 + 1) p11
  s2 : InR v2 (p10 + 1) p11
  ord : w.heap.size < p8 ∧ p8 < p10 ∧ p10 < p11
section
variable {w wx wy : World} {A B : Option Addr} {c d : Nat} {xs ts : List Nat} {p8 p10 p11 : Nat} {u1 u2 v1 v2 : Value} {ls ks qs rs : List Nat}
theorem LSt.below (h : LSt w wx A B c d xs ts p8 p10 p11 u1 u2 v1 v2 ls ks qs rs) (hb : Below wx.heap.size wx wy) : LSt w wy A B c d xs ts p8 p10 p11 u1 u2 v1 v2 ls ks qs rs :=
  ⟨below_then h.bel hb, h.ab.below hb, h.b8.below hb, h.b11.below hb, OwnF.below h.o1 hb, OwnF.below h.o2 hb, h.r1, h.r2, OwnF.below h.g1 hb, OwnF.below h.g2 hb, h.s1, h.s2, h.ord⟩
theorem LSt.markX (h : LSt w wx A B c d xs ts p8 p10 p11 u1 u2 v1 v2 ls ks qs rs) (hw : Wi (p8 + 1) p10 wx wy) : LSt w wy A B c d xs ts p8 p10 p11 u1 u2 v1 v2 ls ks qs rs := by
  have ho := h.ord
  exact ⟨hw.below h.bel h.bel.size (by omega), h.ab.wi hw (by omega), h.b8.wi hw (by omega), h.b11.wi hw (by omega), owns_wi h.o1 hw (h.r1.out (by omega)), owns_wi h.o2 hw (h.r2.out (by omega)), h.r1, h.r2,
    owns_wi h.g1 hw (h.s1.out (by omega)), owns_wi h.g2 hw (h.s2.out (by omega)), h.s1, h.s2, ho⟩
theorem LSt.markG {qs' rs' : List Nat} (h : LSt w wx A B c d xs ts p8 p10 p11 u1 u2 v1 v2 ls ks qs rs) (hw : Wi (p10 + 1) p11 wx wy) (h1 : OwnF wy w.heap.size v1 qs') (h2 : OwnF wy w.heap.size v2 rs') : LSt w wy A B c d xs ts p8 p10 p11 u1 u2 v1 v2 ls ks qs' rs' := by
  have ho := h.ord
  exact ⟨hw.below h.bel h.bel.size (by omega), h.ab.wi hw (by omega), h.b8.wi hw (by omega), h.b11.wi hw (by omega), owns_wi h.o1 hw (h.r1.out (by omega)), owns_wi h.o2 hw (h.r2.out (by omega)), h.r1, h.r2,
    h1, h2, h.s1, h.s2, ho⟩
end
theorem eqCurveO_any {w : World} {B1 B2 B3 B4 : Nat} {A1 A2 A3 A4 : Option Addr} {c1 c2 c3 c4 : Nat} {qs rs ls ks : List Nat} (h1 : OwnF w B1 (.slice A1 qs.length c1) qs) (h2 : OwnF w B2 (.slice A2 rs.length c2) rs) (h3 : OwnF w B3 (.slice A3 ls.length c3) ls) (h4 : OwnF w B4 (.slice A4 ks.length c4) ks) (e1 : SameL qs ls) (e2 : SameL rs ks) :
    Calls Try.prog 35 #[.agg #[.slice A1 qs.length c1, .slice A2 rs.length c2], .agg #[.slice A3 ls.length c3, .slice A4 ks.length c4]] w fun e w' => e = .returned (.bool true) ∧ Below w.heap.size w w' := by
  obtain ⟨_, _, he1, R1⟩ := h1.rdF
  obtain ⟨_, _, he2, R2⟩ := h2.rdF
  obtain ⟨_, _, he3, R3⟩ := h3.rdF
  obtain ⟨_, _, he4, R4⟩ := h4.rdF
  cases he1; cases he2; cases he3; cases he4
  exact eqCurve_any _ _ _ _ _ _ _ _ qs rs ls ks w R1 R2 R3 R4 e1 e2
set_option maxRecDepth 100000 in
set_option maxHeartbeats 4000000 in
theorem fnExactScaleCurve_walk (A B : Option Addr) (c d : Nat) (xs ts : List Nat) (x y : Nat) (w : World) (HX : RdF w A xs) (HT : RdF w B ts) :
    Calls Try.prog 12 #[.agg #[.slice A xs.length c, .slice B ts.length d], .float .f32 x, .float .f32 y] w fun e w' => e = .returned (.bool true) ∧ Below w.heap.size w w' := by
  have hm := HX.1
  have hm2 := HT.1
  rcases szC_le (left := 1048576) (n := xs.length) (m := ts.length) (by omega) (by omega) with hz | ⟨hz, hz1, hz2⟩
  · go_enter Try.func12, Try.ntmps12
    go_wp2_with fail
    (refine (szCurve_any _ _ _ _ _ _ _ _ hm hm2 (by omega) (by omega)).mono ?_; rintro e w1 ⟨rfl, hb1⟩; have hz1 := hb1.size; (try simp at hz1))
    go_wp2_with fail
    go_ret
    exact ⟨rfl, (by repeat' (first | (with_reducible exact Below.refl _ _) | (with_reducible assumption) | (with_reducible refine below_drewN ?_ _) | (with_reducible refine Below.drew ?_) | (with_reducible refine below_alloc ?_ _) | (with_reducible refine Below.setCell ?_ ?_ _) | (with_reducible refine below_then ?_ (by assumption)) | omega | (simp; done) | (simp; omega)))⟩
  · have hl : xs.length ≤ 1048576 := by omega
    have hl2 : ts.length ≤ 1048576 := by omega
    have HZ := Lib.hid hz
    obtain ⟨ok, hok⟩ : ∃ ok, scOk xs ts x y = ok := ⟨_, rfl⟩
    have hP16 : (scX ok xs x).length ≤ 16 := scX_length fun h => (scOk_len (hok.trans h)).1
    have hQ16 : (scX ok ts y).length ≤ 16 := scX_length fun h => (scOk_len (hok.trans h)).2
    obtain ⟨P, hP⟩ : ∃ P, scX ok xs x = P := ⟨_, rfl⟩
    obtain ⟨Q, hQ⟩ : ∃ Q, scX ok ts y = Q := ⟨_, rfl⟩
    rw [hP] at hP16
    rw [hQ] at hQ16
    have HOK := Lib.hid (And.intro hok (And.intro hP hQ))
    clear hok hP hQ
    go_enter Try.func12, Try.ntmps12
    clear hz
    go_wp2_with fail
    have A0 := Blk.new w 51 [.slice A xs.length c, .slice B ts.length d]
    (refine (szCurve_any _ _ _ _ _ _ _ _ hm hm2 (by omega) (by omega)).mono ?_; rintro e w1 ⟨rfl, hb1⟩; rw [HZ.out]; have HX1 := (HX.below (below_alloc (Below.refl _ _) _)).below hb1; have HT1 := (HT.below (below_alloc (Below.refl _ _) _)).below hb1; have A1 := A0.below hb1; have hz1 := hb1.size; (try simp at hz1); obtain ⟨hc1_0, hf1_0, hx1_0⟩ := bcell0 hb1 w.heap.size (by first | assumption | omega | (simp; done) | (simp; omega)))
    go_wp2_with fail
    (refine (toCurve_any _ _ _ _ xs ts _ HX1 HT1 hl hl2).mono ?_; rintro e w2 ⟨g, k, rfl, G, K, hgk, hg, hk, hb2⟩; have HX2 := HX1.below hb2; have HT2 := HT1.below hb2; have GX := G.rdF hm; have KT := K.rdF hm2; have A2 := A1.below hb2; have hz2 := hb2.size; (try simp at hz2); obtain ⟨hc2_0, hf2_0, hx2_0⟩ := bcell0 hb2 w.heap.size (by first | assumption | omega | (simp; done) | (simp; omega)))
    go_wp2_with fail
    refine (scaleS_any _ _ _ _ xs ts x y _ GX KT).mono ?_
    rintro e w3 ⟨u1, u2, ls, ks, rfl, U1, U2, nU, hl1, hl2', hb3⟩
    rw [HOK.out.1] at hl1 hl2' ⊢
    rw [HOK.out.2.1] at hl1
    rw [HOK.out.2.2] at hl2'
    have HE := Lib.hid (And.intro hl1 hl2')
    have HW3 : Below w.heap.size w w3 := (by repeat' (first | (with_reducible exact Below.refl _ _) | (with_reducible assumption) | (with_reducible refine below_drewN ?_ _) | (with_reducible refine Below.drew ?_) | (with_reducible refine below_alloc ?_ _) | (with_reducible refine Below.setCell ?_ ?_ _) | (with_reducible refine below_then ?_ (by assumption)) | exact below_then (Below.drew (Below.refl _ _)) (by assumption) | omega | (simp; done) | (simp; omega)))
    have hz3 : w.heap.size < w3.heap.size := (A2.below hb3).lt
    have A3 := A2.below hb3
    clear hl1 hl2' nU
    obtain ⟨a1, d1, rfl, _⟩ := U1.rdF
    obtain ⟨a2, d2, rfl, _⟩ := U2.rdF
    have U1 : OwnF w3 w.heap.size _ ls := U1.mono (by omega)
    have U2 : OwnF w3 w.heap.size _ ks := U2.mono (by omega)
    have l1 := InR.mono (World.ownsRow.lt U1) (Nat.zero_le _) (Nat.le_refl _)
    have l2 := InR.mono (World.ownsRow.lt U2) (Nat.zero_le _) (Nat.le_refl _)
    have HL12 := Lib.hid (And.intro l1 l2)
    clear l1 l2 hb1 hb2 A0 A1 A2 HX1 HT1 HX2 HT2 GX KT G K
    have a0 := A3.c0; have a1' := A3.c1
    go_wp2_with fail
    have B8 := Blk.new w3 54 [.slice a1 ls.length d1, .slice a2 ks.length d2]
    have W8 := below_alloc HW3 (.cells #[.slice a1 ls.length d1, .slice a2 ks.length d2] 54)
    refine (toCurve_any _ _ _ _ xs ts _ (HX.below W8) (HT.below W8) hl hl2).mono ?_
    rintro e w4 ⟨g', k', rfl, G', K', hgk', hg', hk', hb4⟩
    have W4 := below_then W8 hb4
    have A4 := (A3.alloc _).below hb4
    have B8 := B8.below hb4
    have U1 := OwnF.below (OwnF.below U1 (below_alloc (Below.refl _ _) _)) hb4
    have U2 := OwnF.below (OwnF.below U2 (below_alloc (Below.refl _ _) _)) hb4
    have lg' := G'.lt
    have lk' := K'.lt
    have hz4 := hb4.size
    simp at hg' hk' hz4
    clear hb4 W8 a0 a1' A3 HW3
    go_wp2_with fail
    have B10 := Blk.new w4 54 [.slice (some ⟨g', 0, none⟩) xs.length xs.length, .slice (some ⟨k', 0, none⟩) ts.length ts.length]
    have ba := below_alloc (Below.refl w4.heap.size w4) (.cells #[.slice (some ⟨g', 0, none⟩) xs.length xs.length, .slice (some ⟨k', 0, none⟩) ts.length ts.length] 54)
    refine (scaleI_any _ _ _ _ xs ts x y _ ((G'.rdF hm).below ba) ((K'.rdF hm2).below ba) hl hl2).mono ?_
    rintro e w5 ⟨v1, v2, qs, rs, rfl, V1, V2, nV, hl1, hl2', hb5⟩
    rw [HOK.out.1] at hl1 hl2' ⊢
    rw [HOK.out.2.1] at hl1
    rw [HOK.out.2.2] at hl2'
    have HF := Lib.hid (And.intro hl1 hl2')
    have hq16 : qs.length ≤ 16 := by rw [← List.length_map (cn .f32), hl1]; exact hP16
    have hr16 : rs.length ≤ 16 := by rw [← List.length_map (cn .f32), hl2']; exact hQ16
    have B10 := B10.below hb5
    have G5 := (G'.below ba).below hb5
    have K5 := (K'.below ba).below hb5
    have A5 := (A4.below ba).below hb5
    have B8 := (B8.below ba).below hb5
    have U1 := OwnF.below (OwnF.below U1 ba) hb5
    have U2 := OwnF.below (OwnF.below U2 ba) hb5
    have W5 := below_then (below_then W4 ba) hb5
    have hz5 := hb5.size
    simp at hz5
    obtain ⟨b1, e1, rfl, _⟩ := V1.rdF
    obtain ⟨b2, e2, rfl, _⟩ := V2.rdF
    have m1 := InR.mono (World.ownsRow.lt V1) (lo' := w4.heap.size + 1) (by simp) (Nat.le_refl _)
    have m2 := InR.mono (World.ownsRow.lt V2) (lo' := w4.heap.size + 1) (by simp) (Nat.le_refl _)
    have V1 := V1.mono (show w.heap.size ≤ _ by simp; omega)
    have V2 := V2.mono (show w.heap.size ≤ _ by simp; omega)
    have NV := Lib.hid (And.intro nV (And.intro m1 m2))
    clear hl1 hl2' nV m1 m2 hb5 ba W4 A4 G' K'
    have q0 := B8.c0; have q1 := B8.c1; have ql := B8.lt
    have T0 : LSt w (w5.alloc (.cells #[.slice b1 qs.length e1, .slice b2 rs.length e2] 54)) A B c d xs ts w3.heap.size w4.heap.size w5.heap.size (.slice a1 ls.length d1) (.slice a2 ks.length d2) (.slice b1 qs.length e1) (.slice b2 rs.length e2) ls ks qs rs :=
      ⟨below_alloc W5 _, A5.alloc _, B8.alloc _, Blk.new _ _ _, World.ownsRow.alloc U1 _, World.ownsRow.alloc U2 _, HL12.out.1, HL12.out.2, World.ownsRow.alloc V1 _, World.ownsRow.alloc V2 _, NV.out.2.1, NV.out.2.2, by omega⟩
    have X0 := B10.alloc (.cells #[.slice b1 qs.length e1, .slice b2 rs.length e2] 54)
    have G0 := G5.alloc (.cells #[.slice b1 qs.length e1, .slice b2 rs.length e2] 54)
    have K0 := K5.alloc (.cells #[.slice b1 qs.length e1, .slice b2 rs.length e2] 54)
    clear A5 B8 B10 G5 K5 U1 U2 V1 V2 W5
    go_wp2_with fail
    refine (eqCurveO_any T0.g1 T0.g2 T0.o1 T0.o2 (HF.out.1.trans HE.out.1.symm) (HF.out.2.trans HE.out.2.symm)).mono ?_
    rintro r w6 ⟨rfl, hb6⟩
    have T6 := T0.below hb6
    have X6 := X0.below hb6
    have G6 := G0.below hb6
    have K6 := K0.below hb6
    clear T0 X0 G0 K0 hb6 q0 q1 ql hc1_0 hf1_0 hx1_0 hc2_0 hf2_0 hx2_0 hz1 hz2
    have a0 := T6.ab.c0; have a1' := T6.ab.c1; have ax := T6.ab.lt; have x0 := X6.c0; have x1 := X6.c1; have xx := X6.lt
    have HX6 := HX.below T6.bel; have HT6 := HT.below T6.bel
    have GX6 := G6.rdF hm; have KT6 := K6.rdF hm2
    go_upto_region 10 with fail
    go_cut [53] (fun s53 wx => s53 = .bool false ∧ Below w6.heap.size w6 wx)
    case first =>
      go_region_with (first
        | (go_at_call 33; (refine (toCurve_any _ _ _ _ xs ts _ (HX6.below (by repeat' (first | (with_reducible exact Below.refl _ _) | (with_reducible assumption) | (with_reducible refine below_drewN ?_ _) | (with_reducible refine Below.drew ?_) | (with_reducible refine below_alloc ?_ _) | (with_reducible refine Below.setCell ?_ ?_ _) | (with_reducible refine below_then ?_ (by assumption)) | exact below_then (Below.drew (Below.refl _ _)) (by assumption) | omega | (simp; done) | (simp; omega)))) (HT6.below (by repeat' (first | (with_reducible exact Below.refl _ _) | (with_reducible assumption) | (with_reducible refine below_drewN ?_ _) | (with_reducible refine Below.drew ?_) | (with_reducible refine below_alloc ?_ _) | (with_reducible refine Below.setCell ?_ ?_ _) | (with_reducible refine below_then ?_ (by assumption)) | exact below_then (Below.drew (Below.refl _ _)) (by assumption) | omega | (simp; done) | (simp; omega)))) hl hl2).mono ?_; rintro e w7 ⟨g7, k7, rfl, G7, K7, hgk7, hg7, hk7, hb7⟩; have GX7 : RdF w7 _ xs := GX6.below (by repeat' (first | (with_reducible exact Below.refl _ _) | (with_reducible assumption) | (with_reducible refine below_drewN ?_ _) | (with_reducible refine Below.drew ?_) | (with_reducible refine below_alloc ?_ _) | (with_reducible refine Below.setCell ?_ ?_ _) | (with_reducible refine below_then ?_ (by assumption)) | exact below_then (Below.drew (Below.refl _ _)) (by assumption) | omega | (simp; done) | (simp; omega))); have KT7 : RdF w7 _ ts := KT6.below (by repeat' (first | (with_reducible exact Below.refl _ _) | (with_reducible assumption) | (with_reducible refine below_drewN ?_ _) | (with_reducible refine Below.drew ?_) | (with_reducible refine below_alloc ?_ _) | (with_reducible refine Below.setCell ?_ ?_ _) | (with_reducible refine below_then ?_ (by assumption)) | exact below_then (Below.drew (Below.refl _ _)) (by assumption) | omega | (simp; done) | (simp; omega))); have HG7 := G7.rdF hm; have HK7 := K7.rdF hm2; have hz7 := hb7.size; (try simp at hz7); obtain ⟨hc7_0, hf7_0, hx7_0⟩ := bcell0 hb7 w.heap.size (by first | assumption | omega | (simp; done) | (simp; omega)); obtain ⟨hc7_1, hf7_1, hx7_1⟩ := bcell0 hb7 w4.heap.size (by first | assumption | omega | (simp; done) | (simp; omega))))
        | (go_at_call 35; (refine (eqCurve_any _ _ _ _ _ _ _ _ xs ts xs ts _ (GX7.below (by repeat' (first | (with_reducible exact Below.refl _ _) | (with_reducible assumption) | (with_reducible refine below_drewN ?_ _) | (with_reducible refine Below.drew ?_) | (with_reducible refine below_alloc ?_ _) | (with_reducible refine Below.setCell ?_ ?_ _) | (with_reducible refine below_then ?_ (by assumption)) | exact below_then (Below.drew (Below.refl _ _)) (by assumption) | omega | (simp; done) | (simp; omega)))) (KT7.below (by repeat' (first | (with_reducible exact Below.refl _ _) | (with_reducible assumption) | (with_reducible refine below_drewN ?_ _) | (with_reducible refine Below.drew ?_) | (with_reducible refine below_alloc ?_ _) | (with_reducible refine Below.setCell ?_ ?_ _) | (with_reducible refine below_then ?_ (by assumption)) | exact below_then (Below.drew (Below.refl _ _)) (by assumption) | omega | (simp; done) | (simp; omega)))) (HG7.below (by repeat' (first | (with_reducible exact Below.refl _ _) | (with_reducible assumption) | (with_reducible refine below_drewN ?_ _) | (with_reducible refine Below.drew ?_) | (with_reducible refine below_alloc ?_ _) | (with_reducible refine Below.setCell ?_ ?_ _) | (with_reducible refine below_then ?_ (by assumption)) | exact below_then (Below.drew (Below.refl _ _)) (by assumption) | omega | (simp; done) | (simp; omega)))) (HK7.below (by repeat' (first | (with_reducible exact Below.refl _ _) | (with_reducible assumption) | (with_reducible refine below_drewN ?_ _) | (with_reducible refine Below.drew ?_) | (with_reducible refine below_alloc ?_ _) | (with_reducible refine Below.setCell ?_ ?_ _) | (with_reducible refine below_then ?_ (by assumption)) | exact below_then (Below.drew (Below.refl _ _)) (by assumption) | omega | (simp; done) | (simp; omega)))) (SameL.refl _) (SameL.refl _)).mono ?_; rintro e w8 ⟨rfl, hb8⟩; have hz8 := hb8.size; (try simp at hz8))))
      all_goals
        go_wp2_with fail
        go_meet
        exact ⟨rfl, (by repeat' (first | (with_reducible exact Below.refl _ _) | (with_reducible assumption) | (with_reducible refine below_drewN ?_ _) | (with_reducible refine Below.drew ?_) | (with_reducible refine below_alloc ?_ _) | (with_reducible refine Below.setCell ?_ ?_ _) | (with_reducible refine below_then ?_ (by assumption)) | exact below_then (Below.drew (Below.refl _ _)) (by assumption) | omega | (simp; done) | (simp; omega)))⟩
    case rest =>
      obtain ⟨rfl, hb9⟩ := hcut
      have T9 := T6.below hb9
      have X9 := X6.below hb9
      have GO : OwnF wc w.heap.size (.slice (some ⟨g', 0, none⟩) xs.length xs.length) xs := OwnF.of (ys := []) (by omega) (by simpa using G6.below hb9) (Nat.le_refl _) (by unfold maxLen; omega) (by simp)
      have KO : OwnF wc w.heap.size (.slice (some ⟨k', 0, none⟩) ts.length ts.length) ts := OwnF.of (ys := []) (by omega) (by simpa using K6.below hb9) (Nat.le_refl _) (by unfold maxLen; omega) (by simp)
      clear T6 X6 G6 K6 hb9 a0 a1' ax x0 x1 xx HX6 HT6 GX6 KT6
      have x0 := X9.c0; have x1 := X9.c1
      go_wp2_with fail
      refine (markCurve_any (lo := w3.heap.size + 1) (hi := w4.heap.size) 1 GO KO (.inr (fun e => by injection e with e; exact hgk' e)) (fun k hk => by injection hk with hk; subst hk; exact ⟨by omega, lg'⟩) (fun k hk => by injection hk with hk; subst hk; exact ⟨by omega, lk'⟩) hl hl2 (by omega)).mono ?_
      rintro r w10 ⟨rfl, _, _, hw10⟩
      have T10 := T9.markX hw10
      clear T9 X9 GO KO hw10 x0 x1
      obtain ⟨z, hz⟩ : ∃ z, 1 + xs.length + ts.length = z := ⟨_, rfl⟩
      rw [hz]
      have hz1 : 1 ≤ z := by omega
      clear hz
      have q0 := T10.b8.c0; have q1 := T10.b8.c1; have v0 := T10.b11.c0; have v1 := T10.b11.c1
      go_wp2_with fail
      refine (eqCurveO_any T10.g1 T10.g2 T10.o1 T10.o2 (HF.out.1.trans HE.out.1.symm) (HF.out.2.trans HE.out.2.symm)).mono ?_
      rintro r w11 ⟨rfl, hb11⟩
      have T11 := T10.below hb11
      clear T10 hb11 q0 q1 v0 v1
      have v0 := T11.b11.c0; have v1 := T11.b11.c1
      go_wp2_with fail
      refine (markCurve_any (lo := w4.heap.size + 1) (hi := w5.heap.size) 1 T11.g1 T11.g2 NV.out.1 NV.out.2.1 NV.out.2.2 (by omega) (by omega) (by omega)).mono ?_
      rintro r w12 ⟨rfl, M1, M2, hw12⟩
      have T12 := T11.markG hw12 M1 M2
      clear T11 hw12 M1 M2 v0 v1
      obtain ⟨y', hy⟩ : ∃ y', 1 + qs.length + rs.length = y' := ⟨_, rfl⟩
      rw [hy]
      have HY := Lib.hid hy
      have hy1 : 1 ≤ y' := by omega
      clear hy
      have v0 := T12.b11.c0; have v1 := T12.b11.c1
      go_wp2_with fail
      refine (heldCurve_any 1 T12.g1 T12.g2 hq16 hr16 (by omega)).mono ?_
      rintro r w13 ⟨rfl, hb13⟩
      rw [HY.out]
      have T13 := T12.below hb13
      clear T12 hb13 v0 v1
      have a0 := T13.ab.c0; have a1' := T13.ab.c1
      go_wp2_with fail
      refine (toCurve_any _ _ _ _ xs ts _ (HX.below T13.bel) (HT.below T13.bel) hl hl2).mono ?_
      rintro e w14 ⟨g14, k14, rfl, G14, K14, _, _, _, hb14⟩
      have T14 := T13.below hb14
      clear T13 hb14 a0 a1'
      go_wp2_with fail
      refine (scaleI_any _ _ _ _ xs ts x y _ (G14.rdF hm) (K14.rdF hm2) hl hl2).mono ?_
      rintro e w15 ⟨h1, h2, qs2, rs2, rfl, V1, V2, nV, hl1, hl2', hb15⟩
      rw [HOK.out.1] at hl1 hl2' ⊢
      rw [HOK.out.2.1] at hl1
      rw [HOK.out.2.2] at hl2'
      have HI := Lib.hid (And.intro hl1 hl2')
      have T15 := T14.below hb15
      obtain ⟨b3, e3, rfl, _⟩ := V1.rdF
      obtain ⟨b4, e4, rfl, _⟩ := V2.rdF
      clear hl1 hl2' nV T14 hb15 G14 K14
      have q0 := T15.b8.c0; have q1 := T15.b8.c1; have ql := T15.b8.lt
      have V1 := World.ownsRow.alloc V1 (.cells #[.slice b3 qs2.length e3, .slice b4 rs2.length e4] 54)
      have V2 := World.ownsRow.alloc V2 (.cells #[.slice b3 qs2.length e3, .slice b4 rs2.length e4] 54)
      have T16 := T15.below (below_alloc (Below.refl _ _) (.cells #[.slice b3 qs2.length e3, .slice b4 rs2.length e4] 54))
      clear T15
      go_wp2_with fail
      refine (eqCurveO_any V1 V2 T16.o1 T16.o2 (HI.out.1.trans HE.out.1.symm) (HI.out.2.trans HE.out.2.symm)).mono ?_
      rintro r w17 ⟨rfl, hb17⟩
      have T17 := T16.below hb17
      clear T16 hb17 V1 V2 q0 q1 ql
      have v0 := T17.b11.c0; have v1 := T17.b11.c1
      go_wp2_with fail
      refine (heldCurve_any 1 T17.g1 T17.g2 hq16 hr16 (by omega)).mono ?_
      rintro r w18 ⟨rfl, hb18⟩
      rw [HY.out]
      have hbl := below_then T17.bel hb18
      clear T17 hb18 v0 v1
      go_wp2_with fail
      go_ret
      exact ⟨rfl, hbl⟩
end Go.Proofs.Ytdkkdohbmpjfdaa
