/-
  RatiosOf of the program and of the reference; the law FnExactRatiosOf, walked.
-/
import Derived.Test.YtdkkdohbmpjfdaaTq
namespace Go.Proofs.Ytdkkdohbmpjfdaa
open Go.RowKit Go.Fl Go.Lb

theorem OwnF.mono {w : World} {B B' : Nat} {v : Value} {xs : List Nat} (h : OwnF w B v xs) (hB : B' ≤ B) : OwnF w B' v xs := by
  rcases h.shape with ⟨rfl, rfl⟩ | ⟨g, cap, ys, rfl, hg, hk, h1, h2, h3⟩
  · exact OwnF.nil _ _
  · exact OwnF.of (Nat.le_trans hB hg) hk h1 h2 h3
/-- a list in a block that the writer did not write -/
theorem OwnF.grown {w w' : World} {B : Nat} {v : Value} {xs : List Nat} {row : Option Nat} (h : OwnF w B v xs) (hg : w.grownBy w' row) (hne : v.ownBlock = none ∨ v.ownBlock ≠ row) : OwnF w' B v xs :=
  World.ownsRow.kept h hg hne
theorem eqOwn_any {w : World} {B B' : Nat} {v v' : Value} {xs ys : List Nat} (h : OwnF w B v xs) (h' : OwnF w B' v' ys) (hs : SameL xs ys) :
    Calls Try.prog 25 #[v, v'] w fun e w' => e = .returned (.bool true) ∧ ∃ n, w' = w.drewN n := by
  obtain ⟨A, c, rfl, HX⟩ := h.rdF
  obtain ⟨A', c', rfl, HY⟩ := h'.rdF
  exact eqFloat32S_any A A' c c' xs ys w HX HY hs
theorem markOwn_any {w : World} {B : Nat} {v : Value} {xs : List Nat} (a : Nat) (h : OwnF w B v xs) (hl : xs.length ≤ 1048576) (ha : a ≤ 2097152) :
    Calls Try.prog 29 #[v, .int .i64 a] w fun e w' => e = .returned (.int .i64 ((a + xs.length : Nat) : Int)) ∧ OwnF w' B v (marks a xs.length) ∧ w.grownBy w' v.ownBlock := by
  rcases h.shape with ⟨rfl, rfl⟩ | ⟨g, cap, ys, rfl, hg, hk, h1, h2, h3⟩
  · refine (markNil_any a w).mono ?_
    rintro e w' ⟨rfl, rfl⟩
    exact ⟨rfl, OwnF.nil _ _, grown_refl _ _⟩
  · refine (markFloat32S_any g cap a xs ys w hk hl ha).mono ?_
    rintro e w' ⟨rfl, hk', hg'⟩
    refine ⟨rfl, ?_, hg'⟩
    have := OwnF.of (cap := cap) (B := B) hg hk' (by rw [marks_length]; exact h1) h2 (by rw [marks_length]; exact h3)
    rwa [marks_length] at this
theorem heldOwn_any {w : World} {B : Nat} {v : Value} (a n : Nat) (h : OwnF w B v (marks a n)) (hl : n ≤ 30) (ha : a ≤ 30) :
    Calls Try.prog 30 #[v, .int .i64 a] w fun e w' => e = .returned (.int .i64 ((a + n : Nat) : Int)) ∧ w' = w := by
  rcases h.shape with ⟨rfl, hn⟩ | ⟨g, cap, ys, rfl, hg, hk, h1, h2, h3⟩
  · have hn' := congrArg List.length hn
    rw [marks_length] at hn'
    obtain rfl : n = 0 := hn'
    exact heldNil_any a w
  · rw [marks_length]
    exact heldFloat32S_any g cap a n ys w hk hl ha

def RR (a b c : Int) (e : Nat) : List Nat := if tapOk a b c e then rats a b c e else []
theorem RR_no {a b c : Int} {e : Nat} (h : tapOk a b c e = false) : RR a b c e = [] := by unfold RR; rw [h]; rfl
theorem RR_yes {a b c : Int} {e : Nat} (h : tapOk a b c e = true) : RR a b c e = rats a b c e := by unfold RR; rw [h]; rfl
theorem RR_length (a b c : Int) (e : Nat) : (RR a b c e).length ≤ 3 := by unfold RR; split <;> simp [rats]
section
variable (bus a b c : Int) (e : Nat) (w : World)
set_option maxHeartbeats 1000000 in
theorem ratiosOfS_any : Calls Try.prog 26 #[tapA bus a b c e] w fun r w' => ∃ v qs, r = .returned (.tuple #[v, .bool (tapOk a b c e)]) ∧ OwnF w' w.heap.size v qs ∧ qs.map (cn .f32) = RR a b c e ∧ Below w.heap.size w w' := by
  cases ht : tapOk a b c e with
  | false =>
    have HR := Lib.hid (RR_no ht)
    go_enter Try.func26, Try.ntmps26
    go_wp2_with fail
    refine (l05Tap_any w.heap.size bus a b c e _ (Blk.new _ _ _)).mono ?_
    rintro r w' ⟨rfl, rfl⟩
    rw [ht]
    go_wp2_with fail
    exact bodyPost_ret (v := .tuple #[.slice none 0 0, .bool false]) (by simp only [results, Try.results26]; go_simp) rfl ⟨_, [], rfl, OwnF.nil _ _, by rw [HR.out]; rfl, (by repeat' (first | (with_reducible exact Below.refl _ _) | (with_reducible assumption) | (with_reducible refine below_drewN ?_ _) | (with_reducible refine Below.drew ?_) | (with_reducible refine below_alloc ?_ _) | (with_reducible refine Below.setCell ?_ ?_ _) | (with_reducible refine below_then ?_ (by assumption)) | omega | (simp; done) | (simp; omega)))⟩
  | true =>
    have HR := Lib.hid (RR_yes ht)
    go_enter Try.func26, Try.ntmps26
    go_wp2_with fail
    refine (l05Tap_any w.heap.size bus a b c e _ (Blk.new _ _ _)).mono ?_
    rintro r w' ⟨rfl, rfl⟩
    rw [ht]
    go_wp2_with fail
    refine (l05Ratios_own w.heap.size bus a b c e _ (Blk.new _ _ _)).mono ?_
    rintro r w1 ⟨v, qs, rfl, HO, hq, hb1⟩
    have HQ := Lib.hid hq
    clear hq
    go_wp2_with fail
    exact bodyPost_ret (v := .tuple #[v, .bool true]) (by simp only [results, Try.results26]; go_simp) rfl ⟨v, qs, rfl, HO.mono (by simp), by rw [HR.out]; exact HQ.out, (by repeat' (first | (with_reducible exact Below.refl _ _) | (with_reducible assumption) | (with_reducible refine below_drewN ?_ _) | (with_reducible refine Below.drew ?_) | (with_reducible refine below_alloc ?_ _) | (with_reducible refine Below.setCell ?_ ?_ _) | (with_reducible refine below_then ?_ (by assumption)) | omega | (simp; done) | (simp; omega)))⟩
set_option maxHeartbeats 1000000 in
theorem ratiosOfI_any : Calls Try.prog 28 #[tapA bus a b c e] w fun r w' => ∃ v qs, r = .returned (.tuple #[v, .bool (tapOk a b c e)]) ∧ OwnF w' w.heap.size v qs ∧ qs.map (cn .f32) = RR a b c e ∧ Below w.heap.size w w' := by
  cases ht : tapOk a b c e with
  | false =>
    have HR := Lib.hid (RR_no ht)
    go_enter Try.func28, Try.ntmps28
    go_wp2_with fail
    (refine (okI_any w.heap.size bus a b c e _ (Blk.new _ _ _)).mono ?_; rintro e w1 ⟨rfl, hb1⟩; rw [ht]; have hz1 := hb1.size; (try simp at hz1))
    go_wp2_with fail
    exact bodyPost_ret (v := .tuple #[.slice none 0 0, .bool false]) (by simp only [results, Try.results28]; go_simp) rfl ⟨_, [], rfl, OwnF.nil _ _, by rw [HR.out]; rfl, (by repeat' (first | (with_reducible exact Below.refl _ _) | (with_reducible assumption) | (with_reducible refine below_drewN ?_ _) | (with_reducible refine Below.drew ?_) | (with_reducible refine below_alloc ?_ _) | (with_reducible refine Below.setCell ?_ ?_ _) | (with_reducible refine below_then ?_ (by assumption)) | omega | (simp; done) | (simp; omega)))⟩
  | true =>
    have HR := Lib.hid (RR_yes ht)
    go_enter Try.func28, Try.ntmps28
    go_wp2_with fail
    (refine (okI_any w.heap.size bus a b c e _ (Blk.new _ _ _)).mono ?_; rintro e w1 ⟨rfl, hb1⟩; rw [ht]; have hz1 := hb1.size; (try simp at hz1))
    go_wp2_with fail
    refine (ratiosI_any w.heap.size bus a b c e _ ((Blk.new _ _ _).below hb1)).mono ?_
    rintro r w2 ⟨v, qs, rfl, HO, hq, hb2⟩
    have HQ := Lib.hid hq
    clear hq
    go_wp2_with fail
    exact bodyPost_ret (v := .tuple #[v, .bool true]) (by simp only [results, Try.results28]; go_simp) rfl ⟨v, qs, rfl, HO.mono (by omega), by rw [HR.out]; exact HQ.out, (by repeat' (first | (with_reducible exact Below.refl _ _) | (with_reducible assumption) | (with_reducible refine below_drewN ?_ _) | (with_reducible refine Below.drew ?_) | (with_reducible refine below_alloc ?_ _) | (with_reducible refine Below.setCell ?_ ?_ _) | (with_reducible refine below_then ?_ (by assumption)) | omega | (simp; done) | (simp; omega)))⟩
set_option maxHeartbeats 4000000 in
theorem fnExactRatiosOf_walk : Calls Try.prog 7 #[tapA bus a b c e] w fun r w' => r = .returned (.bool true) ∧ Below w.heap.size w w' := by
  obtain ⟨ok, hok⟩ : ∃ ok, tapOk a b c e = ok := ⟨_, rfl⟩
  have HOK := Lib.hid hok
  clear hok
  go_enter Try.func7, Try.ntmps7
  go_wp2_with fail
  have B0 : Blk (w.alloc (.cells #[.int .i64 bus, .int .i64 a, .int .i64 b, .int .i64 c, .float .f32 e] 43)) w.heap.size 43 (tapV bus a b c e) := Blk.new _ _ _
  (refine (toTap_any bus a b c e _).mono ?_; rintro e w1 ⟨rfl, hb1⟩; have B1 := B0.below hb1; have hz1 := hb1.size; (try simp at hz1); obtain ⟨hc1_0, hf1_0, hx1_0⟩ := bcell0 hb1 w.heap.size (by first | assumption | omega | (simp; done) | (simp; omega)))
  go_wp2_with fail
  (refine (ratiosOfS_any bus a b c e _).mono ?_; rintro e w2 ⟨v1, qs1, rfl, O1, hq1, hb2⟩; rw [HOK.out]; have Q1 := Lib.hid hq1; clear hq1; have B2 := B1.below hb2; have hz2 := hb2.size; (try simp at hz2); obtain ⟨hc2_0, hf2_0, hx2_0⟩ := bcell0 hb2 w.heap.size (by first | assumption | omega | (simp; done) | (simp; omega)))
  go_wp2_with fail
  (refine (toTap_any bus a b c e _).mono ?_; rintro e w3 ⟨rfl, hb3⟩; have B3 := B2.below hb3; have O1 := O1.below hb3; have hz3 := hb3.size; (try simp at hz3); obtain ⟨hc3_0, hf3_0, hx3_0⟩ := bcell0 hb3 w.heap.size (by first | assumption | omega | (simp; done) | (simp; omega)))
  go_wp2_with fail
  (refine (ratiosOfI_any bus a b c e _).mono ?_; rintro e w4 ⟨v2, qs2, rfl, O2, hq2, hb4⟩; rw [HOK.out]; have Q2 := Lib.hid hq2; clear hq2; have B4 := B3.below hb4; have L1 := O1.lt; have O1 := O1.below hb4; have hz4 := hb4.size; (try simp at hz4); obtain ⟨hc4_0, hf4_0, hx4_0⟩ := bcell0 hb4 w.heap.size (by first | assumption | omega | (simp; done) | (simp; omega)))
  go_wp2_with fail
  refine (eqOwn_any O2 O1 (Q2.out.trans Q1.out.symm)).mono ?_
  rintro r wy ⟨rfl, n, hwy⟩
  have O1 : OwnF wy w1.heap.size v1 qs1 := O1.below (by rw [hwy]; exact (by repeat' (first | (with_reducible exact Below.refl _ _) | (with_reducible assumption) | (with_reducible refine below_drewN ?_ _) | (with_reducible refine Below.drew ?_) | (with_reducible refine below_alloc ?_ _) | (with_reducible refine Below.setCell ?_ ?_ _) | (with_reducible refine below_then ?_ (by assumption)) | exact below_then (Below.drew (Below.refl _ _)) (by assumption) | omega | (simp; done) | (simp; omega))))
  have O2 : OwnF wy w3.heap.size v2 qs2 := O2.below (by rw [hwy]; exact (by repeat' (first | (with_reducible exact Below.refl _ _) | (with_reducible assumption) | (with_reducible refine below_drewN ?_ _) | (with_reducible refine Below.drew ?_) | (with_reducible refine below_alloc ?_ _) | (with_reducible refine Below.setCell ?_ ?_ _) | (with_reducible refine below_then ?_ (by assumption)) | exact below_then (Below.drew (Below.refl _ _)) (by assumption) | omega | (simp; done) | (simp; omega))))
  have B5 : Blk wy w.heap.size 43 (tapV bus a b c e) := B4.below (by rw [hwy]; exact (by repeat' (first | (with_reducible exact Below.refl _ _) | (with_reducible assumption) | (with_reducible refine below_drewN ?_ _) | (with_reducible refine Below.drew ?_) | (with_reducible refine below_alloc ?_ _) | (with_reducible refine Below.setCell ?_ ?_ _) | (with_reducible refine below_then ?_ (by assumption)) | exact below_then (Below.drew (Below.refl _ _)) (by assumption) | omega | (simp; done) | (simp; omega))))
  have HY : Below w.heap.size w wy := by rw [hwy]; exact (by repeat' (first | (with_reducible exact Below.refl _ _) | (with_reducible assumption) | (with_reducible refine below_drewN ?_ _) | (with_reducible refine Below.drew ?_) | (with_reducible refine below_alloc ?_ _) | (with_reducible refine Below.setCell ?_ ?_ _) | (with_reducible refine below_then ?_ (by assumption)) | omega | (simp; done) | (simp; omega)))
  have hn2 : qs2.length ≤ 3 := by
    have h1 := congrArg List.length Q2.out
    have h2 := RR_length a b c e
    rw [List.length_map] at h1
    omega
  have L2 : ∀ k, v2.ownBlock = some k → w3.heap.size ≤ k ∧ k < wy.heap.size := World.ownsRow.lt O2
  have hs3 := B3.lt
  have HN : v1.ownBlock = none ∨ v1.ownBlock ≠ v2.ownBlock := by
    cases h : v1.ownBlock with
    | none => exact .inl rfl
    | some k =>
      refine .inr fun he => ?_
      have h1 := (L1 k h).2
      have h2 := (L2 k he.symm).1
      omega
  have HN2 : some w.heap.size ≠ v2.ownBlock := fun he => by
    have h2 := (L2 _ he.symm).1
    omega
  have HL2 := Lib.hid (And.intro HN (And.intro HN2 (fun k hk => Nat.le_trans (Nat.le_of_lt hs3) (L2 k hk).1)))
  clear L1 L2 HN HN2 hwy
  go_wp2_with fail
  refine (markOwn_any 1 O2 (by omega) (by omega)).mono ?_
  rintro r w5 ⟨rfl, M2, hg5⟩
  have O1 : OwnF w5 w1.heap.size v1 qs1 := O1.grown hg5 HL2.out.1
  have B6 : Blk w5 w.heap.size 43 (tapV bus a b c e) := Blk.grown B5 hg5 HL2.out.2.1
  have HY5 : Below w.heap.size w w5 := Below.grown HY hg5 HY.size HL2.out.2.2
  clear hg5 B5 HY O2
  obtain ⟨z, hz⟩ : ∃ z, 1 + qs2.length = z := ⟨_, rfl⟩
  rw [hz]
  have HZ := Lib.hid hz
  have hz1 : 1 ≤ z := by omega
  clear hz
  go_wp2_with fail
  refine (heldOwn_any 1 qs2.length M2 (by omega) (by omega)).mono ?_
  rintro r w' ⟨rfl, rfl⟩
  rw [HZ.out]
  have c0 := B6.cell 0
  have c1 := B6.cell 1
  have c2 := B6.cell 2
  have c3 := B6.cell 3
  have c4 := B6.cell 4
  go_wp2_with fail
  (refine (toTap_any bus a b c e _).mono ?_; rintro e w6 ⟨rfl, hb6⟩; have O1 := O1.below hb6; have M2 := M2.below hb6; have hz6 := hb6.size; (try simp at hz6))
  go_wp2_with fail
  (refine (ratiosOfI_any bus a b c e _).mono ?_; rintro e w7 ⟨v3, qs3, rfl, O3, hq3, hb7⟩; rw [HOK.out]; have Q3 := Lib.hid hq3; clear hq3; have O1 := O1.below hb7; have M2 := M2.below hb7; have hz7 := hb7.size; (try simp at hz7))
  go_wp2_with fail
  refine (eqOwn_any O3 O1 (Q3.out.trans Q1.out.symm)).mono ?_
  rintro r wz ⟨rfl, n, hwz⟩
  have M2 : OwnF wz w3.heap.size v2 (marks 1 qs2.length) := M2.below (by rw [hwz]; exact (by repeat' (first | (with_reducible exact Below.refl _ _) | (with_reducible assumption) | (with_reducible refine below_drewN ?_ _) | (with_reducible refine Below.drew ?_) | (with_reducible refine below_alloc ?_ _) | (with_reducible refine Below.setCell ?_ ?_ _) | (with_reducible refine below_then ?_ (by assumption)) | exact below_then (Below.drew (Below.refl _ _)) (by assumption) | omega | (simp; done) | (simp; omega))))
  have HW : Below w.heap.size w wz := by rw [hwz]; exact (by repeat' (first | (with_reducible exact Below.refl _ _) | (with_reducible assumption) | (with_reducible refine below_drewN ?_ _) | (with_reducible refine Below.drew ?_) | (with_reducible refine below_alloc ?_ _) | (with_reducible refine Below.setCell ?_ ?_ _) | (with_reducible refine below_then ?_ (by assumption)) | omega | (simp; done) | (simp; omega)))
  clear hwz
  go_wp2_with fail
  refine (heldOwn_any 1 qs2.length M2 (by omega) (by omega)).mono ?_
  rintro r w' ⟨rfl, rfl⟩
  rw [HZ.out]
  go_wp2_with fail
  go_ret
  exact ⟨rfl, HW⟩
end
end Go.Proofs.Ytdkkdohbmpjfdaa
