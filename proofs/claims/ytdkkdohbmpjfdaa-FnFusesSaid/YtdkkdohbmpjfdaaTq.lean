/-
  RatiosOf of the program and of the reference.
-/
import Derived.Test.YtdkkdohbmpjfdaaTp
namespace Go.Proofs.Ytdkkdohbmpjfdaa
open Go.RowKit Go.Fl Go.Lb

def rats (a b c : Int) (e : Nat) : List Nat := [rat a e, rat b e, rat c e]
theorem own_ne {w : World} {B g : Nat} {v : Value} {xs : List Nat} {T : TypeId} {cs : List Value} (h : OwnF w B v xs) (hb : Blk w g T cs) (hT : T ≠ 22) : v.ownBlock = none ∨ v.ownBlock ≠ some g := by
  rcases h.shape with ⟨rfl, _⟩ | ⟨g', cap, ys, rfl, _, hk, _⟩
  · exact .inl rfl
  · refine .inr fun he => ?_
    have he' : g' = g := by simpa [Value.ownBlock] using he
    subst he'
    unfold Blk at hk hb
    rw [hk] at hb
    simp at hb
    exact hT hb.2.symm
theorem ne_own {v : Value} {g : Nat} (h : v.ownBlock = none ∨ v.ownBlock ≠ some g) : some g ≠ v.ownBlock := by
  rcases h with h | h
  · rw [h]; simp
  · exact fun e => h e.symm
theorem Blk.grown {w w' : World} {g : Nat} {T : TypeId} {cs : List Value} {row : Option Nat} (h : Blk w g T cs) (hg : w.grownBy w' row) (hne : some g ≠ row) : Blk w' g T cs :=
  (hg.block g h.lt hne).trans h
section
variable (p : Nat) (bus a b c : Int) (e : Nat) (w : World) (HB : Blk w p 46 (tapV bus a b c e))
include HB
set_option maxHeartbeats 1000000 in
theorem okI_any : Calls Try.prog 56 #[.pointer (some ⟨p, 0, none⟩)] w fun r w' => r = .returned (.bool (tapOk a b c e)) ∧ Below w.heap.size w w' := by
  go_enter Try.func56, Try.ntmps56
  go_wp2_with fail
  (refine (steps_any p bus a b c e _ HB).mono ?_; rintro e w1 ⟨g, rfl, G, hg, hb1⟩; have hz1 := hb1.size; (try simp at hz1))
  have k4 : w1.cell? ⟨p, 4, none⟩ = some (.float .f32 e) := (HB.below hb1).cell 4
  have g0 : w1.cell? ⟨g, 0, none⟩ = some (.int .i64 a) := G.cell 0
  have g1 : w1.cell? ⟨g, 1, none⟩ = some (.int .i64 b) := G.cell 1
  have g2 : w1.cell? ⟨g, 2, none⟩ = some (.int .i64 c) := G.cell 2
  go_wp2_with fail
  go_loopw [8] (fun i wr => ∃ k : Nat, k ≤ 3 ∧ i = .int .i64 k ∧ wr = w1 ∧ Hid ((1 ≤ k → inB a (-16) 16 = true) ∧ (2 ≤ k → inB b (-16) 16 = true) ∧ (3 ≤ k → inB c (-16) 16 = true))) (fun i _ => 3 - (intOf i).toNat)
  case atStart => exact ⟨0, by omega, rfl, rfl, ⟨fun h => absurd h (by omega), fun h => absurd h (by omega), fun h => absurd h (by omega)⟩⟩
  case round =>
    obtain ⟨k, hk, rfl, rfl, hall⟩ := hrel
    obtain rfl | rfl | rfl | rfl : k = 0 ∨ k = 1 ∨ k = 2 ∨ k = 3 := by omega
    · cases h1 : inB a (-16) 16
      · go_wp2_with (go_at_call 60; refine (in_any _ _ _ _).mono ?_; rintro e w' ⟨rfl, rfl⟩)
        go_ret
        exact ⟨ret_bool (by simp [tapOk, h1]), hb1⟩
      · go_wp2_with (go_at_call 60; refine (in_any _ _ _ _).mono ?_; rintro e w' ⟨rfl, rfl⟩)
        go_roundw
        case rel => exact ⟨1, by omega, rfl, by trivial, ⟨fun _ => (by trivial), fun h => absurd h (by omega), fun h => absurd h (by omega)⟩⟩
        case measure => simp [intOf]
    · cases h1 : inB b (-16) 16
      · go_wp2_with (go_at_call 60; refine (in_any _ _ _ _).mono ?_; rintro e w' ⟨rfl, rfl⟩)
        go_ret
        exact ⟨ret_bool (by simp [tapOk, h1]), hb1⟩
      · go_wp2_with (go_at_call 60; refine (in_any _ _ _ _).mono ?_; rintro e w' ⟨rfl, rfl⟩)
        go_roundw
        case rel => exact ⟨2, by omega, rfl, by trivial, ⟨fun _ => hall.out.1 (by omega), fun _ => (by trivial), fun h => absurd h (by omega)⟩⟩
        case measure => simp [intOf]
    · cases h1 : inB c (-16) 16
      · go_wp2_with (go_at_call 60; refine (in_any _ _ _ _).mono ?_; rintro e w' ⟨rfl, rfl⟩)
        go_ret
        exact ⟨ret_bool (by simp [tapOk, h1]), hb1⟩
      · go_wp2_with (go_at_call 60; refine (in_any _ _ _ _).mono ?_; rintro e w' ⟨rfl, rfl⟩)
        go_roundw
        case rel => exact ⟨3, by omega, rfl, by trivial, ⟨fun _ => hall.out.1 (by omega), fun _ => hall.out.2.1 (by omega), fun _ => (by trivial)⟩⟩
        case measure => simp [intOf]
    · have h1 := Lib.hid (hall.out.1 (by omega))
      have h2 := Lib.hid (hall.out.2.1 (by omega))
      have h3 := Lib.hid (hall.out.2.2 (by omega))
      cases h4 : geB e 0
      · have h4' : (cf .f32 e 0 == some .gt || cf .f32 e 0 == some .eq) = false := h4
        go_wp2_with fail
        go_ret
        exact ⟨ret_bool (by simp [tapOk, h4]), hb1⟩
      · have h4' : (cf .f32 e 0 == some .gt || cf .f32 e 0 == some .eq) = true := h4
        go_wp2_with fail
        go_ret
        exact ⟨ret_bool (by simp [tapOk, h1.out, h2.out, h3.out, h4, leB]), hb1⟩

/-- how a call that makes the ratios ends -/
def RatOk (w w' : World) (v : Value) (qs R : List Nat) : Prop := OwnF w' w.heap.size v qs ∧ qs.map (cn .f32) = R ∧ Below w.heap.size w w'
theorem l05Ratios_own : Calls Try.prog 55 #[.pointer (some ⟨p, 0, none⟩)] w fun r w' => ∃ v qs, r = .returned v ∧ RatOk w w' v qs (rats a b c e) := by
  refine (l05Ratios_any p bus a b c e w HB).mono ?_
  rintro r w' ⟨g, q1, q2, q3, rfl, G, hg, h1, h2, h3, hb⟩
  refine ⟨_, [q1, q2, q3], rfl, OwnF.of (ys := []) (cap := 3) hg (by simpa using G) (by simp) (by unfold maxLen; omega) (by simp), by simp [rats, h1, h2, h3], hb⟩

set_option maxHeartbeats 2000000 in
theorem ratiosI_any : Calls Try.prog 57 #[.pointer (some ⟨p, 0, none⟩)] w fun r w' => ∃ v qs, r = .returned v ∧ RatOk w w' v qs (rats a b c e) := by
  obtain ⟨i0, hI⟩ := info_parts infoF32
  have HI := Lib.hid hI
  clear hI
  go_enter Try.func57, Try.ntmps57
  go_wp2_with fail
  (refine (steps_any p bus a b c e _ (HB.below (by repeat' (first | (with_reducible exact Below.refl _ _) | (with_reducible assumption) | (with_reducible refine below_drewN ?_ _) | (with_reducible refine Below.drew ?_) | (with_reducible refine below_alloc ?_ _) | (with_reducible refine Below.setCell ?_ ?_ _) | (with_reducible refine below_then ?_ (by assumption)) | omega | (simp; done) | (simp; omega))))).mono ?_; rintro e w1 ⟨g, rfl, G, hg, hb1⟩; have hz1 := hb1.size; (try simp at hz1))
  go_wp2_with fail
  have HW1 : Below w.heap.size w w1 := (by repeat' (first | (with_reducible exact Below.refl _ _) | (with_reducible assumption) | (with_reducible refine below_drewN ?_ _) | (with_reducible refine Below.drew ?_) | (with_reducible refine below_alloc ?_ _) | (with_reducible refine Below.setCell ?_ ?_ _) | (with_reducible refine below_then ?_ (by assumption)) | omega | (simp; done) | (simp; omega)))
  have HO1 : OwnF w1 w.heap.size (.slice (some ⟨w.heap.size, 0, none⟩) 0 0) [] :=
    OwnF.of (xs := []) (ys := []) (Nat.le_refl _) ((Blk.new w 22 []).below hb1) (by simp) (by unfold maxLen; omega) (by simp)
  go_loopw [3, 10] (fun v i wr => ∃ (k : Nat) (qs : List Nat), k ≤ 3 ∧ i = .int .i64 k ∧ OwnF wr w.heap.size v qs ∧ Blk wr g 2 [.int .i64 a, .int .i64 b, .int .i64 c] ∧ Below w.heap.size w wr ∧ Hid (qs.length = k ∧ qs.map (cn .f32) = (rats a b c e).take k)) (fun _ i _ => 3 - (intOf i).toNat)
  case atStart => exact ⟨0, [], by omega, rfl, HO1, G, HW1, ⟨rfl, rfl⟩⟩
  case round =>
    obtain ⟨k, qs, hk, rfl, HO, HG, HW, hq⟩ := hrel
    have k4 : wr.cell? ⟨p, 4, none⟩ = some (.float .f32 e) := (HB.below HW).cell 4
    have g0 : wr.cell? ⟨g, 0, none⟩ = some (.int .i64 a) := HG.cell 0
    have g1 : wr.cell? ⟨g, 1, none⟩ = some (.int .i64 b) := HG.cell 1
    have g2 : wr.cell? ⟨g, 2, none⟩ = some (.int .i64 c) := HG.cell 2
    by_cases hlt : k < 3
    · have hz : ∃ z, wr.cell? ⟨g, k, none⟩ = some (.int .i64 z) ∧ (rats a b c e).take (k + 1) = (rats a b c e).take k ++ [rat z e] := by
        obtain rfl | rfl | rfl : k = 0 ∨ k = 1 ∨ k = 2 := by omega
        · exact ⟨a, g0, rfl⟩
        · exact ⟨b, g1, rfl⟩
        · exact ⟨c, g2, rfl⟩
      obtain ⟨z, hz, ht⟩ := hz
      have HT := Lib.hid ht
      clear ht g0 g1 g2
      have hki : (k : Int) < 3 := by omega
      have HN := Lib.hid (ne_own (own_ne HO HG (by decide)))
      have HSZ := HW.size
      go_wp2_with (at_builtin; go_loud (generalize hr : fv _ .add .f32 _ _ = q; have Hr := Lib.hid (show cn .f32 q = rat z e by rw [← hr]; exact rat_fv _ _ _ _); clear hr; refine wpList_append_own _ rfl _ _ 32 rfl w.heap.size 22 i0 (.float .f32 0) 1 4 Try.underlying32 HI.out.1 HI.out.2.1 HI.out.2.2.1 HI.out.2.2.2 rfl (by decide) _ _ _ rfl (by exact HO.below (by repeat' (first | (with_reducible exact Below.refl _ _) | (with_reducible assumption) | (with_reducible refine below_drewN ?_ _) | (with_reducible refine Below.drew ?_) | (with_reducible refine below_alloc ?_ _) | (with_reducible refine Below.setCell ?_ ?_ _) | (with_reducible refine below_then ?_ (by assumption)) | exact below_then (Below.drew (Below.refl _ _)) (by assumption) | omega | (simp; done) | (simp; omega)))) ⟨wr.heap.size, 0, none⟩ 1 1 [.float .f32 q] rfl rfl (by intro j u hu; match j, hu with | 0, hu => (injection hu with hu; subst hu; rw [Addr.add_zero']; exact Blk.c0 (l := []) (Blk.new _ _ [_]))) (by intro u hu; simp at hu; subst hu; rfl) (by have := hq.out.1; unfold maxLen; omega) (by have := hq.out.1; omega) (by simp; omega) ?_; intro v' w2 hown hgr _; have HO2 : OwnF w2 w.heap.size v' (qs ++ [q]) := (by unfold OwnF; simpa using hown); have HG2 : Blk w2 g 2 [.int .i64 a, .int .i64 b, .int .i64 c] := Blk.grown (by exact (by repeat' (first | (with_reducible assumption) | (with_reducible exact Blk.new _ _ _) | (with_reducible refine Blk.alloc ?_ _) | (with_reducible refine Blk.drewN ?_ _) | (with_reducible refine Blk.drewS ?_) | (with_reducible apply Blk.set3) | (with_reducible refine Blk.other ?_ ?_ _) | omega | (simp; done) | (simp; omega)))) hgr HN.out; have HW2 : Below w.heap.size w w2 := Below.grown (by exact (by repeat' (first | (with_reducible exact Below.refl _ _) | (with_reducible assumption) | (with_reducible refine below_drewN ?_ _) | (with_reducible refine Below.drew ?_) | (with_reducible refine below_alloc ?_ _) | (with_reducible refine Below.setCell ?_ ?_ _) | (with_reducible refine below_then ?_ (by assumption)) | exact below_then (Below.drew (Below.refl _ _)) (by assumption) | omega | (simp; done) | (simp; omega)))) hgr (by simp; omega) (fun k hk => (HO.lt k hk).1); clear hown hgr))
      go_roundw
      case rel => exact ⟨k + 1, qs ++ [q], by omega, by go_num, HO2, HG2, HW2, ⟨by simp [hq.out.1], by rw [List.map_append, hq.out.2, HT.out]; simp [Hr.out]⟩⟩
      case measure => simp [intOf]; omega
    · obtain rfl : k = 3 := by omega
      go_wp2_with fail
      go_ret
      exact ⟨_, qs, rfl, HO, hq.out.2, HW⟩
end
end Go.Proofs.Ytdkkdohbmpjfdaa
