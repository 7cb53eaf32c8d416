/-
  ScaleCurve of the reference.
-/
import Derived.Test.YtdkkdohbmpjfdaaSk
import Derived.Test.YtdkkdohbmpjfdaaWi
import Derived.Deep.RegionLaw
import Derived.Deep.DeepCutAuto
import Derived.Deep.AppendLies
import Derived.Deep.DrawnRows
namespace Go.Proofs.Ytdkkdohbmpjfdaa
open Go.RowKit Go.Fl Go.Lb
attribute [local go_sem ↓] Go.wp_at_zero Go.wp_at_succ

theorem ge_map_cn (xs : List Nat) (k : Nat) : ge (xs.map (cn .f32)) k = cn .f32 (ge xs k) := by
  unfold ge
  rw [List.getD_eq_getElem?_getD, List.getD_eq_getElem?_getD, List.getElem?_map]
  cases xs[k]? with
  | none => rfl
  | some x => rfl
theorem plusB_cn (x : Nat) : plusB (cn .f32 x) = plusB x := by unfold plusB; rw [fin_cn, pos_cn]
theorem validL_cn (xs ts : List Nat) : validL (xs.map (cn .f32)) (ts.map (cn .f32)) = validL xs ts := by
  unfold validL
  rw [List.length_map, List.length_map]
  congr 1
  congr 1
  funext j
  cases j with
  | zero => simp only [okAt, ge_map_cn, plusB_cn]
  | succ j => simp only [okAt, ge_map_cn, plusB_cn, geB, gtB, cf_cn_left, cf_cn_right]

/-- a curve scaled is in order -/
def scOk (xs ts : List Nat) (a b : Nat) : Bool := validL xs ts && validL (xs.map (sc a)) (ts.map (sc b))
def scX (ok : Bool) (xs : List Nat) (a : Nat) : List Nat := if ok then xs.map (sc a) else []

structure ScSt (w wr : World) (A B : Option Addr) (c d : Nat) (xs ts : List Nat) (v1 v2 : Value) (qs rs : List Nat) : Prop where
  bel : Below w.heap.size w wr
  cb : Blk wr w.heap.size 54 [.slice A xs.length c, .slice B ts.length d]
  rb : Blk wr (w.heap.size + 1) 54 [.slice none 0 0, .slice none 0 0]
  ob : Blk wr (w.heap.size + 1 + 1) 54 [v1, v2]
  o1 : OwnF wr (w.heap.size + 3) v1 qs
  o2 : OwnF wr (w.heap.size + 3) v2 rs
  ne : v1.ownBlock = none ∨ v1.ownBlock ≠ v2.ownBlock
theorem own_far {v : Value} {wr : World} {B : Nat} {qs : List Nat} (h : OwnF wr B v qs) {k : Nat} (hk : k < B) : some k ≠ v.ownBlock := fun e => by
  have := (World.ownsRow.lt h k e.symm).1
  omega
theorem grown_low {wr W w1 : World} {B : Nat} {v : Value} {qs : List Nat} (hg : W.grownBy w1 v.ownBlock) (hW : Below wr.heap.size wr W) (ho : OwnF wr B v qs) (hB : B ≤ wr.heap.size) : Below B wr w1 :=
  Below.grown (hW.mono hB) hg (Nat.le_trans hB hW.size) (fun k hk => (World.ownsRow.lt ho k hk).1)
theorem cell_low {w w' : World} {B : Nat} {a : Addr} {v : Value} (h : Below B w w') (ha : a.block < B) (hc : w.cell? a = some v) : w'.cell? a = some v := (h.cell ha).trans hc
theorem frozen_low {w w' : World} {B : Nat} {a : Addr} {v : Bool} (h : Below B w w') (ha : a.block < B) (hc : w.frozen? a = v) : w'.frozen? a = v := (h.frozen ha).trans hc
section
variable {w wr W w1 : World} {A B : Option Addr} {c d g cap q : Nat} {xs ts qs rs : List Nat} {v1 v2 : Value}
theorem Blk.low {w w' : World} {C b : Nat} {T : TypeId} {cs : List Value} (h : Blk w b T cs) (hb : Below C w w') (hc : b < C) : Blk w' b T cs := (hb.block b hc).trans h
theorem own_push (hown : w1.ownsRow (w.heap.size + 3) 22 1 (.slice (some ⟨g, 0, none⟩) (qs.length + 1) cap) (qs.length + 1) (qs.map fv32 ++ [.float .f32 q])) : OwnF w1 (w.heap.size + 3) (.slice (some ⟨g, 0, none⟩) (qs.length + 1) cap) (qs ++ [q]) := by
  unfold OwnF
  simpa using hown
theorem ScSt.push1 (ST : ScSt w wr A B c d xs ts v1 v2 qs rs) (hW : Below wr.heap.size wr W) (hg : W.grownBy w1 v1.ownBlock)
    (hown : w1.ownsRow (w.heap.size + 3) 22 1 (.slice (some ⟨g, 0, none⟩) (qs.length + 1) cap) (qs.length + 1) (qs.map fv32 ++ [.float .f32 q])) (hat : v1.ownBlock = some g ∨ g = wr.heap.size + 1) :
    ScSt w (w1.setCell ⟨w.heap.size + 1 + 1, 0, none⟩ (.slice (some ⟨g, 0, none⟩) (qs.length + 1) cap)) A B c d xs ts (.slice (some ⟨g, 0, none⟩) (qs.length + 1) cap) v2 (qs ++ [q]) rs := by
  have hsw := ST.ob.lt
  have hlow : Below (w.heap.size + 3) wr w1 := grown_low hg hW ST.o1 (by omega)
  have l2 := World.ownsRow.lt ST.o2
  refine ⟨(ST.bel.trans (hlow.mono (by omega))).setCell (show w.heap.size ≤ w.heap.size + 1 + 1 by omega) _, ?_, ?_, ?_, ?_, ?_, ?_⟩
  · exact (Blk.low ST.cb hlow (by omega)).other (show w.heap.size + 1 + 1 ≠ _ by omega) _
  · exact (Blk.low ST.rb hlow (by omega)).other (show w.heap.size + 1 + 1 ≠ _ by omega) _
  · exact (Blk.low ST.ob hlow (by omega)).set 0 _
  · exact ownsRow_setCell_below (own_push hown) (show w.heap.size + 1 + 1 < _ by omega) _
  · have hne : v2.ownBlock = none ∨ v2.ownBlock ≠ v1.ownBlock := by
      cases h : v2.ownBlock with
      | none => exact .inl rfl
      | some k =>
        refine .inr fun e => ?_
        rcases ST.ne with h' | h'
        · rw [h'] at e; cases e
        · exact h' (by rw [h, e])
    exact ownsRow_setCell_below (World.ownsRow.kept (OwnF.below ST.o2 hW) hg hne) (show w.heap.size + 1 + 1 < _ by omega) _
  · refine .inr fun e => ?_
    have e' : v2.ownBlock = some g := e.symm
    rcases hat with h | h
    · rcases ST.ne with h' | h'
      · rw [h'] at h; cases h
      · exact h' (by rw [h, e'])
    · have := (l2 g e').2
      omega
theorem ScSt.push2 (ST : ScSt w wr A B c d xs ts v1 v2 rs qs) (hW : Below wr.heap.size wr W) (hg : W.grownBy w1 v2.ownBlock)
    (hown : w1.ownsRow (w.heap.size + 3) 22 1 (.slice (some ⟨g, 0, none⟩) (qs.length + 1) cap) (qs.length + 1) (qs.map fv32 ++ [.float .f32 q])) (hat : v2.ownBlock = some g ∨ g = wr.heap.size + 1) :
    ScSt w (w1.setCell ⟨w.heap.size + 1 + 1, 1, none⟩ (.slice (some ⟨g, 0, none⟩) (qs.length + 1) cap)) A B c d xs ts v1 (.slice (some ⟨g, 0, none⟩) (qs.length + 1) cap) rs (qs ++ [q]) := by
  have hsw := ST.ob.lt
  have hlow : Below (w.heap.size + 3) wr w1 := grown_low hg hW ST.o2 (by omega)
  have l1 := World.ownsRow.lt ST.o1
  refine ⟨(ST.bel.trans (hlow.mono (by omega))).setCell (show w.heap.size ≤ w.heap.size + 1 + 1 by omega) _, ?_, ?_, ?_, ?_, ?_, ?_⟩
  · exact (Blk.low ST.cb hlow (by omega)).other (show w.heap.size + 1 + 1 ≠ _ by omega) _
  · exact (Blk.low ST.rb hlow (by omega)).other (show w.heap.size + 1 + 1 ≠ _ by omega) _
  · exact (Blk.low ST.ob hlow (by omega)).set 1 _
  · exact ownsRow_setCell_below (World.ownsRow.kept (OwnF.below ST.o1 hW) hg ST.ne) (show w.heap.size + 1 + 1 < _ by omega) _
  · exact ownsRow_setCell_below (own_push hown) (show w.heap.size + 1 + 1 < _ by omega) _
  · cases h : v1.ownBlock with
    | none => exact .inl rfl
    | some k =>
      refine .inr fun e => ?_
      have e' : k = g := by injection e
      subst e'
      rcases hat with h2 | h2
      · rcases ST.ne with h' | h'
        · rw [h'] at h; cases h
        · exact h' (by rw [h, h2])
      · have := (l1 k h).2
        omega
end

def ScRes (w : World) (xs ts : List Nat) (x y : Nat) (e : Ending) (w' : World) : Prop := ∃ v1 v2 qs rs, e = .returned (.tuple #[.agg #[v1, v2], .bool (scOk xs ts x y)]) ∧ OwnF w' w.heap.size v1 qs ∧ OwnF w' w.heap.size v2 rs ∧
  (v1.ownBlock = none ∨ v1.ownBlock ≠ v2.ownBlock) ∧ qs.map (cn .f32) = scX (scOk xs ts x y) xs x ∧ rs.map (cn .f32) = scX (scOk xs ts x y) ts y ∧ Below w.heap.size w w'
theorem scRes_no {w w' : World} {xs ts : List Nat} {x y : Nat} (h : scOk xs ts x y = false) (hb : Below w.heap.size w w') : ScRes w xs ts x y (.returned (.tuple #[.agg #[.slice none 0 0, .slice none 0 0], .bool false])) w' := by
  refine ⟨_, _, [], [], by rw [h], OwnF.nil _ _, OwnF.nil _ _, .inl rfl, ?_, ?_, hb⟩ <;> (rw [h]; rfl)
theorem scRes_yes {w w' : World} {xs ts qs rs : List Nat} {x y : Nat} {v1 v2 : Value} (h : scOk xs ts x y = true) (h1 : OwnF w' w.heap.size v1 qs) (h2 : OwnF w' w.heap.size v2 rs) (hn : v1.ownBlock = none ∨ v1.ownBlock ≠ v2.ownBlock)
    (hq : qs.map (cn .f32) = xs.map (sc x)) (hr : rs.map (cn .f32) = ts.map (sc y)) (hb : Below w.heap.size w w') : ScRes w xs ts x y (.returned (.tuple #[.agg #[v1, v2], .bool true])) w' := by
  refine ⟨v1, v2, qs, rs, by rw [h], h1, h2, hn, ?_, ?_, hb⟩
  · rw [h]; exact hq
  · rw [h]; exact hr
set_option maxRecDepth 100000 in
set_option maxHeartbeats 4000000 in
theorem scaleS_any (A B : Option Addr) (c d : Nat) (xs ts : List Nat) (x y : Nat) (w : World) (HX : RdF w A xs) (HT : RdF w B ts) :
    Calls Try.prog 43 #[.agg #[.slice A xs.length c, .slice B ts.length d], .float .f32 x, .float .f32 y] w (ScRes w xs ts x y) := by
  cases h1 : validL xs ts with
  | false =>
    have HN := Lib.hid (show scOk xs ts x y = false by unfold scOk; rw [h1]; rfl)
    have H1 := Lib.hid h1
    clear h1
    go_enter Try.func43, Try.ntmps43
    go_wp2_with fail
    refine (l07Is_any _ 0 A B c d xs ts _ (by go_simp) (by go_simp) (HX.below (by repeat' (first | (with_reducible exact Below.refl _ _) | (with_reducible assumption) | (with_reducible refine below_drewN ?_ _) | (with_reducible refine Below.drew ?_) | (with_reducible refine below_alloc ?_ _) | (with_reducible refine Below.setCell ?_ ?_ _) | (with_reducible refine below_then ?_ (by assumption)) | omega | (simp; done) | (simp; omega)))) (HT.below (by repeat' (first | (with_reducible exact Below.refl _ _) | (with_reducible assumption) | (with_reducible refine below_drewN ?_ _) | (with_reducible refine Below.drew ?_) | (with_reducible refine below_alloc ?_ _) | (with_reducible refine Below.setCell ?_ ?_ _) | (with_reducible refine below_then ?_ (by assumption)) | omega | (simp; done) | (simp; omega))))).mono ?_
    rintro e w' ⟨rfl, n, rfl⟩
    rw [H1.out]
    go_wp2_with fail
    exact bodyPost_ret (v := .tuple #[.agg #[.slice none 0 0, .slice none 0 0], .bool false]) (by simp only [results, Try.results43]; go_simp) rfl (scRes_no HN.out (by repeat' (first | (with_reducible exact Below.refl _ _) | (with_reducible assumption) | (with_reducible refine below_drewN ?_ _) | (with_reducible refine Below.drew ?_) | (with_reducible refine below_alloc ?_ _) | (with_reducible refine Below.setCell ?_ ?_ _) | (with_reducible refine below_then ?_ (by assumption)) | omega | (simp; done) | (simp; omega))))
  | true =>
    obtain ⟨i0, hI⟩ := info_parts infoF32
    have HI := Lib.hid hI
    clear hI
    have hsz : sizeOk xs.length ts.length = true := by
      unfold validL at h1
      simp only [Bool.and_eq_true] at h1
      exact h1.1
    obtain ⟨hs1, hs2, hs3⟩ := sizeOk_iff hsz
    have HL := Lib.hid hs3
    have hle : xs.length ≤ ts.length := by omega
    have hle2 : ts.length ≤ 16 := by omega
    have HN : Hid (scOk xs ts x y = validL (xs.map (sc x)) (ts.map (sc y))) := by
      show _ = _
      unfold scOk
      rw [h1, Bool.true_and]
    have H1 := Lib.hid h1
    clear h1 hsz hs3
    go_enter Try.func43, Try.ntmps43
    go_wp2_with fail
    refine (l07Is_any _ 0 A B c d xs ts _ (by go_simp) (by go_simp) (HX.below (by repeat' (first | (with_reducible exact Below.refl _ _) | (with_reducible assumption) | (with_reducible refine below_drewN ?_ _) | (with_reducible refine Below.drew ?_) | (with_reducible refine below_alloc ?_ _) | (with_reducible refine Below.setCell ?_ ?_ _) | (with_reducible refine below_then ?_ (by assumption)) | omega | (simp; done) | (simp; omega)))) (HT.below (by repeat' (first | (with_reducible exact Below.refl _ _) | (with_reducible assumption) | (with_reducible refine below_drewN ?_ _) | (with_reducible refine Below.drew ?_) | (with_reducible refine below_alloc ?_ _) | (with_reducible refine Below.setCell ?_ ?_ _) | (with_reducible refine below_then ?_ (by assumption)) | omega | (simp; done) | (simp; omega))))).mono ?_
    rintro e w' ⟨rfl, n, rfl⟩
    rw [H1.out]
    go_wp2_with fail
    go_loopw [17] (fun i wr => ∃ (k : Nat) (v1 v2 : Value) (qs rs : List Nat), k ≤ xs.length ∧ i = .int .i64 k ∧ ScSt w wr A B c d xs ts v1 v2 qs rs ∧
      Hid ((qs.length = k ∧ rs.length = k) ∧ qs.map (cn .f32) = (xs.map (sc x)).take k ∧ rs.map (cn .f32) = (ts.map (sc y)).take k)) (fun i _ => xs.length - (intOf i).toNat)
    case atStart =>
      refine ⟨0, .slice none 0 0, .slice none 0 0, [], [], Nat.zero_le _, rfl, ⟨(by repeat' (first | (with_reducible exact Below.refl _ _) | (with_reducible assumption) | (with_reducible refine below_drewN ?_ _) | (with_reducible refine Below.drew ?_) | (with_reducible refine below_alloc ?_ _) | (with_reducible refine Below.setCell ?_ ?_ _) | (with_reducible refine below_then ?_ (by assumption)) | omega | (simp; done) | (simp; omega))), (by repeat' (first | (with_reducible assumption) | (with_reducible exact Blk.new _ _ _) | (with_reducible refine Blk.alloc ?_ _) | (with_reducible refine Blk.drewN ?_ _) | (with_reducible refine Blk.drewS ?_) | (with_reducible apply Blk.set3) | (with_reducible refine Blk.other ?_ ?_ _) | omega | (simp; done) | (simp; omega))), ?_, ?_, OwnF.nil _ _, OwnF.nil _ _, .inl rfl⟩, ⟨⟨rfl, rfl⟩, rfl, rfl⟩⟩
      · have := Blk.new (w.alloc (.cells #[.slice A xs.length c, .slice B ts.length d] 54)) 54 [.slice none 0 0, .slice none 0 0]
        simp at this
        exact (Blk.alloc this _).drewN _
      · have := Blk.new ((w.alloc (.cells #[.slice A xs.length c, .slice B ts.length d] 54)).alloc (.cells #[.slice none 0 0, .slice none 0 0] 54)) 54 [.slice none 0 0, .slice none 0 0]
        simp at this
        exact this.drewN _
    case round =>
      obtain ⟨k, v1, v2, qs, rs, hk, rfl, ST, hq⟩ := hrel
      by_cases hlt : k < xs.length
      · have hki : (k : Int) < xs.length := by omega
        have hki2 : (k : Int) < ts.length := by omega
        obtain ⟨ad, rfl, hca⟩ := (HX.below ST.bel).at_ hlt
        obtain ⟨bd, rfl, hcb⟩ := (HT.below ST.bel).at_ (show k < ts.length by omega)
        obtain ⟨ad', ead, hca0⟩ := HX.at_ hlt
        obtain ⟨bd', ebd, hcb0⟩ := HT.at_ (show k < ts.length by omega)
        injection ead with ead
        injection ebd with ebd
        subst ead
        subst ebd
        have had := World.block_lt_of_cell? w _ hca0
        have hbd := World.block_lt_of_cell? w _ hcb0
        have c0 := ST.cb.c0
        have o0 := ST.ob.c0
        have z0 := ST.ob.frozen 0
        have hsw := ST.ob.lt
        clear hca0 hcb0 hcb
        have hwr3 : w.heap.size + 3 ≤ wr.heap.size := hsw
        have l0 : w.heap.size + 1 + 1 < w.heap.size + 3 := by omega
        have had : (ad.add k).block < w.heap.size + 3 := by omega
        have hbd : (bd.add k).block < w.heap.size + 3 := by omega
        have HT1 := Lib.hid (take_map_step (sc x) xs hlt)
        have HT2 := Lib.hid (take_map_step (sc y) ts (show k < ts.length by omega))
        go_upto_region 7 with fail
        go_cut [30] (fun s30 wx => ∃ v1' q, ScSt w wx (some ad) (some bd) c d xs ts v1' v2 (qs ++ [q]) rs ∧ Hid (cn .f32 q = sc x (ge xs k)))
        case first =>
          go_region_law ((generalize hr : fv _ .mul .f32 _ _ = q; have Hr := Lib.hid (show cn .f32 q = sc x (ge xs k) by rw [← hr, cn_fv]; rfl); clear hr; refine step_append_lies _ (by rfl) _ _ _ (by rfl) (w.heap.size + 3) 22 i0 _ 1 4 Try.underlying32 HI.out.1 HI.out.2.1 HI.out.2.2.1 HI.out.2.2.2 rfl (by omega) v1 qs.length (qs.map fv32) (by rfl) (ST.o1.below (by repeat' (first | (with_reducible exact Below.refl _ _) | (with_reducible assumption) | (with_reducible refine below_drewN ?_ _) | (with_reducible refine Below.drew ?_) | (with_reducible refine below_alloc ?_ _) | (with_reducible refine Below.setCell ?_ ?_ _) | (with_reducible refine below_then ?_ (by assumption)) | exact below_then (Below.drew (Below.refl _ _)) (by assumption) | omega | (simp; done) | (simp; omega)))) ⟨wr.heap.size, 0, none⟩ 1 1 [.float .f32 q] (by rfl) (by rfl) (World.news_of_block (cs := #[.float .f32 q]) (t := 22) (fr := (0, 0)) (heap_alloc_new wr _)) (by simp [Value.oneCell']) (by omega) (by have := hq.out.1.1; unfold maxLen; omega) (by have := hq.out.1.1; omega) (by simp; omega) (wr.heap.size + 1) (by simp) ?_; intro g cap w1 hown1 hgrow hat hlt1; have hlow := grown_low hgrow (by repeat' (first | (with_reducible exact Below.refl _ _) | (with_reducible assumption) | (with_reducible refine below_drewN ?_ _) | (with_reducible refine Below.drew ?_) | (with_reducible refine below_alloc ?_ _) | (with_reducible refine Below.setCell ?_ ?_ _) | (with_reducible refine below_then ?_ (by assumption)) | exact below_then (Below.drew (Below.refl _ _)) (by assumption) | omega | (simp; done) | (simp; omega))) ST.o1 hwr3; have o0' := cell_low hlow l0 o0; have z0' := frozen_low hlow l0 z0))
          all_goals
            go_wp2_with fail
            go_meet
            exact ⟨_, q, ST.push1 (by repeat' (first | (with_reducible exact Below.refl _ _) | (with_reducible assumption) | (with_reducible refine below_drewN ?_ _) | (with_reducible refine Below.drew ?_) | (with_reducible refine below_alloc ?_ _) | (with_reducible refine Below.setCell ?_ ?_ _) | (with_reducible refine below_then ?_ (by assumption)) | exact below_then (Below.drew (Below.refl _ _)) (by assumption) | omega | (simp; done) | (simp; omega))) hgrow hown1 hat, Hr⟩
        case rest =>
          obtain ⟨v1', q, ST', Hq⟩ := hcut
          clear c0 o0 z0 hca hsw hwr3 ST
          have c1 := ST'.cb.c1
          have o1 := ST'.ob.c1
          have z1 := ST'.ob.frozen 1
          have hsw := ST'.ob.lt
          have hwr3 : w.heap.size + 3 ≤ wc.heap.size := hsw
          obtain ⟨bd', ebd, hcb⟩ := (HT.below ST'.bel).at_ (show k < ts.length by omega)
          injection ebd with ebd
          subst ebd
          go_wp2_with fail
          go_region_law ((generalize hr : fv _ .mul .f32 _ _ = q2; have Hr := Lib.hid (show cn .f32 q2 = sc y (ge ts k) by rw [← hr, cn_fv]; rfl); clear hr; refine step_append_lies _ (by rfl) _ _ _ (by rfl) (w.heap.size + 3) 22 i0 _ 1 4 Try.underlying32 HI.out.1 HI.out.2.1 HI.out.2.2.1 HI.out.2.2.2 rfl (by omega) v2 rs.length (rs.map fv32) (by rfl) (ST'.o2.below (by repeat' (first | (with_reducible exact Below.refl _ _) | (with_reducible assumption) | (with_reducible refine below_drewN ?_ _) | (with_reducible refine Below.drew ?_) | (with_reducible refine below_alloc ?_ _) | (with_reducible refine Below.setCell ?_ ?_ _) | (with_reducible refine below_then ?_ (by assumption)) | exact below_then (Below.drew (Below.refl _ _)) (by assumption) | omega | (simp; done) | (simp; omega)))) ⟨wc.heap.size, 0, none⟩ 1 1 [.float .f32 q2] (by rfl) (by rfl) (World.news_of_block (cs := #[.float .f32 q2]) (t := 22) (fr := (0, 0)) (heap_alloc_new wc _)) (by simp [Value.oneCell']) (by omega) (by have := hq.out.1.2; unfold maxLen; omega) (by have := hq.out.1.2; omega) (by simp; omega) (wc.heap.size + 1) (by simp) ?_; intro g cap w1 hown1 hgrow hat hlt1; have hlow := grown_low hgrow (by repeat' (first | (with_reducible exact Below.refl _ _) | (with_reducible assumption) | (with_reducible refine below_drewN ?_ _) | (with_reducible refine Below.drew ?_) | (with_reducible refine below_alloc ?_ _) | (with_reducible refine Below.setCell ?_ ?_ _) | (with_reducible refine below_then ?_ (by assumption)) | exact below_then (Below.drew (Below.refl _ _)) (by assumption) | omega | (simp; done) | (simp; omega))) ST'.o2 hwr3; have o0' := cell_low hlow l0 o1; have z0' := frozen_low hlow l0 z1))
          all_goals
            have ST2 := ST'.push2 (by repeat' (first | (with_reducible exact Below.refl _ _) | (with_reducible assumption) | (with_reducible refine below_drewN ?_ _) | (with_reducible refine Below.drew ?_) | (with_reducible refine below_alloc ?_ _) | (with_reducible refine Below.setCell ?_ ?_ _) | (with_reducible refine below_then ?_ (by assumption)) | exact below_then (Below.drew (Below.refl _ _)) (by assumption) | omega | (simp; done) | (simp; omega))) hgrow hown1 hat
            have Hq2 := Hr
            go_wp2_with fail
            go_roundw
            case rel =>
              refine ⟨k + 1, v1', _, qs ++ [q], rs ++ [q2], by omega, by go_num, ST2, ⟨⟨?_, ?_⟩, ?_, ?_⟩⟩
              · simp [hq.out.1.1]
              · simp [hq.out.1.2]
              · rw [List.map_append, hq.out.2.1, HT1.out]; simp [Hq.out]
              · rw [List.map_append, hq.out.2.2, HT2.out]; simp [Hq2.out]
            case measure => simp [intOf]; omega
      · obtain rfl : k = xs.length := by omega
        have HQ := Lib.hid (hq.out.2.1.trans (List.take_of_length_le (by simp)))
        have HR := Lib.hid (hq.out.2.2.trans (List.take_of_length_le (by simp; exact Nat.le_of_eq HL.out)))
        have HV : Hid (validL qs rs = scOk xs ts x y) := by
          show _ = _
          rw [HN.out, ← validL_cn qs rs, HQ.out, HR.out]
        obtain ⟨A1, c1, rfl, R1⟩ := ST.o1.rdF
        obtain ⟨A2, c2, rfl, R2⟩ := ST.o2.rdF
        have o0 := ST.ob.c0
        have o1 := ST.ob.c1
        have r0 := ST.rb.c0
        have r1 := ST.rb.c1
        have zr0 := ST.rb.frozen 0
        have zr1 := ST.rb.frozen 1
        have hsw := ST.ob.lt
        have hbl := ST.bel
        have hw1 : OwnF wr (w.heap.size + 3) (.slice A1 qs.length c1) qs := ST.o1
        have hw2 : OwnF wr (w.heap.size + 3) (.slice A2 rs.length c2) rs := ST.o2
        go_wp2_with fail
        refine (l07Is_any _ 0 _ _ _ _ qs rs _ o0 o1 R1 R2).mono ?_
        rintro e w' ⟨rfl, n2, rfl⟩
        rw [HV.out]
        cases hok : scOk xs ts x y with
        | false =>
          have HK := Lib.hid hok
          clear hok
          go_wp2_with fail
          exact bodyPost_ret (v := .tuple #[.agg #[.slice none 0 0, .slice none 0 0], .bool false]) (by simp only [results, Try.results43]; go_simp) rfl (scRes_no HK.out (by repeat' (first | (with_reducible exact Below.refl _ _) | (with_reducible assumption) | (with_reducible refine below_drewN ?_ _) | (with_reducible refine Below.drew ?_) | (with_reducible refine below_alloc ?_ _) | (with_reducible refine Below.setCell ?_ ?_ _) | (with_reducible refine below_then ?_ (by assumption)) | omega | (simp; done) | (simp; omega))))
        | true =>
          have HK := Lib.hid hok
          clear hok
          go_wp2_with fail
          exact bodyPost_ret (v := .tuple #[.agg #[.slice A1 qs.length c1, .slice A2 rs.length c2], .bool true]) (by simp only [results, Try.results43]; go_simp) rfl (scRes_yes HK.out (by first | exact OwnF.mono (ownsRow_setCell_below (ownsRow_setCell_below hw1 (by simp)  _) (by simp) _) (by omega)) (by first | exact OwnF.mono (ownsRow_setCell_below (ownsRow_setCell_below hw2 (by simp)  _) (by simp) _) (by omega)) ST.ne HQ.out HR.out (by repeat' (first | (with_reducible exact Below.refl _ _) | (with_reducible assumption) | (with_reducible refine below_drewN ?_ _) | (with_reducible refine Below.drew ?_) | (with_reducible refine below_alloc ?_ _) | (with_reducible refine Below.setCell ?_ ?_ _) | (with_reducible refine below_then ?_ (by assumption)) | omega | (simp; done) | (simp; omega))))
end Go.Proofs.Ytdkkdohbmpjfdaa
