/-
  UsesOf of the program and of the reference; the law FnExactUsesOf, walked.
-/
import Derived.Test.YtiikjnokoihhgaaUo
import Derived.Test.YtiikjnokoihhgaaOj
namespace Go.Proofs.Ytiikjnokoihhgaa
open Go.RowKit Go.Fl Go.Lb

/-- what a meter counted between readings, if it is in order -/
def usesR (z : Int) (xs : List Int) : List Int := if validM z xs then uses z.toNat xs else []
theorem usesR_no {z : Int} {xs : List Int} (h : validM z xs = false) : usesR z xs = [] := by unfold usesR; rw [h]; rfl
theorem usesR_yes {d : Nat} {xs : List Int} (h : validM d xs = true) : usesR d xs = uses d xs := by unfold usesR; rw [h]; rfl
theorem usesR_length (z : Int) (xs : List Int) : (usesR z xs).length ≤ 256 := by
  cases h : validM z xs with
  | false => rw [usesR_no h]; simp
  | true =>
    obtain ⟨d, rfl, _, _, hn, _⟩ := validM_yes h
    rw [usesR_yes h]; exact uses_le d hn
set_option maxHeartbeats 1000000 in
theorem usesOfS_any (A : Option Addr) (c : Nat) (z : Int) (xs : List Int) (w : World) (HX : RdI w A xs) :
    Calls Try.prog 17 #[meterV z A xs.length c] w fun e w' => ∃ v, e = .returned (.tuple #[v, .bool (validM z xs)]) ∧ OwnI w' w.heap.size v (usesR z xs) ∧ Below w.heap.size w w' := by
  cases hv : validM z xs with
  | false =>
    have HR := Lib.hid (usesR_no hv)
    have HV := Lib.hid hv
    clear hv
    go_enter Try.func17, Try.ntmps17
    go_wp2_with fail
    refine (l09Meter_any _ 0 A c z xs _ (by go_simp) (by go_simp) (HX.below (by repeat' (first | (with_reducible exact Below.refl _ _) | (with_reducible assumption) | (with_reducible refine below_drewN ?_ _) | (with_reducible refine Below.drew ?_) | (with_reducible refine below_alloc ?_ _) | (with_reducible refine Below.setCell ?_ ?_ _) | (with_reducible refine below_then ?_ (by assumption)) | omega | (simp; done) | (simp; omega))))).mono ?_
    rintro e w' ⟨rfl, rfl⟩
    rw [HV.out]
    go_wp2_with fail
    exact bodyPost_ret (v := .tuple #[.slice none 0 0, .bool false]) (by simp only [results, Try.results17]; go_simp) rfl ⟨_, rfl, by rw [HR.out]; exact OwnI.nil _ _, (by repeat' (first | (with_reducible exact Below.refl _ _) | (with_reducible assumption) | (with_reducible refine below_drewN ?_ _) | (with_reducible refine Below.drew ?_) | (with_reducible refine below_alloc ?_ _) | (with_reducible refine Below.setCell ?_ ?_ _) | (with_reducible refine below_then ?_ (by assumption)) | omega | (simp; done) | (simp; omega)))⟩
  | true =>
    obtain ⟨d, rfl, hd1, hd, hn, hr⟩ := validM_yes hv
    have HR := Lib.hid (usesR_yes hv)
    have HV := Lib.hid hv
    have HRD := Lib.hid hr
    clear hv hr
    go_enter Try.func17, Try.ntmps17
    go_wp2_with fail
    refine (l09Meter_any _ 0 A c d xs _ (by go_simp) (by go_simp) (HX.below (by repeat' (first | (with_reducible exact Below.refl _ _) | (with_reducible assumption) | (with_reducible refine below_drewN ?_ _) | (with_reducible refine Below.drew ?_) | (with_reducible refine below_alloc ?_ _) | (with_reducible refine Below.setCell ?_ ?_ _) | (with_reducible refine below_then ?_ (by assumption)) | omega | (simp; done) | (simp; omega))))).mono ?_
    rintro e w' ⟨rfl, rfl⟩
    rw [HV.out]
    go_wp2_with fail
    refine (l09Uses_any _ 0 d A c xs _ (by go_simp) (by go_simp) (HX.below (by repeat' (first | (with_reducible exact Below.refl _ _) | (with_reducible assumption) | (with_reducible refine below_drewN ?_ _) | (with_reducible refine Below.drew ?_) | (with_reducible refine below_alloc ?_ _) | (with_reducible refine Below.setCell ?_ ?_ _) | (with_reducible refine below_then ?_ (by assumption)) | omega | (simp; done) | (simp; omega)))) hd HRD.out hn).mono ?_
    rintro e w1 ⟨v, rfl, HO, hb1⟩
    go_wp2_with fail
    exact bodyPost_ret (v := .tuple #[v, .bool true]) (by simp only [results, Try.results17]; go_simp) rfl ⟨v, rfl, by rw [HR.out]; exact HO.mono (by simp), (by repeat' (first | (with_reducible exact Below.refl _ _) | (with_reducible assumption) | (with_reducible refine below_drewN ?_ _) | (with_reducible refine Below.drew ?_) | (with_reducible refine below_alloc ?_ _) | (with_reducible refine Below.setCell ?_ ?_ _) | (with_reducible refine below_then ?_ (by assumption)) | omega | (simp; done) | (simp; omega)))⟩
set_option maxHeartbeats 1000000 in
theorem usesOfI_any (A : Option Addr) (c : Nat) (z : Int) (xs : List Int) (w : World) (HX : RdI w A xs) :
    Calls Try.prog 18 #[meterV z A xs.length c] w fun e w' => ∃ v, e = .returned (.tuple #[v, .bool (validM z xs)]) ∧ OwnI w' w.heap.size v (usesR z xs) ∧ Below w.heap.size w w' := by
  cases hv : validM z xs with
  | false =>
    have HR := Lib.hid (usesR_no hv)
    have HV := Lib.hid hv
    clear hv
    go_enter Try.func18, Try.ntmps18
    go_wp2_with fail
    (refine (validMeterI_any A c z xs _ (HX.below (by repeat' (first | (with_reducible exact Below.refl _ _) | (with_reducible assumption) | (with_reducible refine below_drewN ?_ _) | (with_reducible refine Below.drew ?_) | (with_reducible refine below_alloc ?_ _) | (with_reducible refine Below.setCell ?_ ?_ _) | (with_reducible refine below_then ?_ (by assumption)) | omega | (simp; done) | (simp; omega))))).mono ?_; rintro e w1 ⟨rfl, hb1⟩; rw [HV.out]; have hz1 := hb1.size; (try simp at hz1); obtain ⟨hc1_0, hf1_0, hx1_0⟩ := bcell0 hb1 w.heap.size (by first | assumption | omega | (simp; done) | (simp; omega)))
    go_wp2_with fail
    exact bodyPost_ret (v := .tuple #[.slice none 0 0, .bool false]) (by simp only [results, Try.results18]; go_simp) rfl ⟨_, rfl, by rw [HR.out]; exact OwnI.nil _ _, (by repeat' (first | (with_reducible exact Below.refl _ _) | (with_reducible assumption) | (with_reducible refine below_drewN ?_ _) | (with_reducible refine Below.drew ?_) | (with_reducible refine below_alloc ?_ _) | (with_reducible refine Below.setCell ?_ ?_ _) | (with_reducible refine below_then ?_ (by assumption)) | omega | (simp; done) | (simp; omega)))⟩
  | true =>
    obtain ⟨d, rfl, hd1, hd, hn, hr⟩ := validM_yes hv
    have HR := Lib.hid (usesR_yes hv)
    have HV := Lib.hid hv
    have HRD := Lib.hid hr
    clear hv hr
    go_enter Try.func18, Try.ntmps18
    go_wp2_with fail
    (refine (validMeterI_any A c d xs _ (HX.below (by repeat' (first | (with_reducible exact Below.refl _ _) | (with_reducible assumption) | (with_reducible refine below_drewN ?_ _) | (with_reducible refine Below.drew ?_) | (with_reducible refine below_alloc ?_ _) | (with_reducible refine Below.setCell ?_ ?_ _) | (with_reducible refine below_then ?_ (by assumption)) | omega | (simp; done) | (simp; omega))))).mono ?_; rintro e w1 ⟨rfl, hb1⟩; rw [HV.out]; have HX1 : RdI w1 A xs := (HX.below (below_alloc (Below.refl _ _) _)).below hb1; have hz1 := hb1.size; (try simp at hz1); obtain ⟨hc1_0, hf1_0, hx1_0⟩ := bcell0 hb1 w.heap.size (by first | assumption | omega | (simp; done) | (simp; omega)))
    go_wp2_with fail
    refine (usesI_any w.heap.size 0 d A c xs _ (by rw [hc1_0]; go_simp) (by rw [hc1_0]; go_simp) HX1 hd HRD.out hn).mono ?_
    rintro e w2 ⟨v, rfl, HO, hb2⟩
    go_wp2_with fail
    exact bodyPost_ret (v := .tuple #[v, .bool true]) (by simp only [results, Try.results18]; go_simp) rfl ⟨v, rfl, by rw [HR.out]; exact HO.mono (by omega), (by repeat' (first | (with_reducible exact Below.refl _ _) | (with_reducible assumption) | (with_reducible refine below_drewN ?_ _) | (with_reducible refine Below.drew ?_) | (with_reducible refine below_alloc ?_ _) | (with_reducible refine Below.setCell ?_ ?_ _) | (with_reducible refine below_then ?_ (by assumption)) | omega | (simp; done) | (simp; omega)))⟩
set_option maxRecDepth 100000 in
set_option maxHeartbeats 4000000 in
theorem fnExactUsesOf_walk (A : Option Addr) (c : Nat) (z : Int) (xs : List Int) (w : World) (HX : RdI w A xs) :
    Calls Try.prog 5 #[meterV z A xs.length c] w fun e w' => e = .returned (.bool true) ∧ Below w.heap.size w w' := by
  have hm := HX.1
  rcases szM_le (left := 1048576) (n := xs.length) (by omega) with hz | ⟨hz, hz1⟩
  · go_enter Try.func5, Try.ntmps5
    go_wp2_with fail
    (refine (szMeter_any _ _ _ _ _ _ hm (by omega) (by omega)).mono ?_; rintro e w1 ⟨rfl, hb1⟩; have hz1 := hb1.size; (try simp at hz1))
    go_wp2_with fail
    go_ret
    exact ⟨rfl, (by repeat' (first | (with_reducible exact Below.refl _ _) | (with_reducible assumption) | (with_reducible refine below_drewN ?_ _) | (with_reducible refine Below.drew ?_) | (with_reducible refine below_alloc ?_ _) | (with_reducible refine Below.setCell ?_ ?_ _) | (with_reducible refine below_then ?_ (by assumption)) | omega | (simp; done) | (simp; omega)))⟩
  · have hl : xs.length ≤ 1048576 := by omega
    obtain ⟨ok, hok⟩ : ∃ ok, validM z xs = ok := ⟨_, rfl⟩
    have HOK := Lib.hid hok
    obtain ⟨us, hus⟩ : ∃ us, usesR z xs = us := ⟨_, rfl⟩
    have hul : us.length ≤ 256 := by rw [← hus]; exact usesR_length z xs
    have HUS := Lib.hid hus
    have HZ := Lib.hid hz
    clear hok hus
    go_enter Try.func5, Try.ntmps5
    clear hz
    go_wp2_with fail
    have A0 : Blk (w.alloc (.cells #[.int .i64 z, .slice A xs.length c] 24)) w.heap.size 24 [.int .i64 z, .slice A xs.length c] := Blk.new _ _ _
    (refine (szMeter_any _ _ _ _ _ _ hm (by omega) (by omega)).mono ?_; rintro e w1 ⟨rfl, hb1⟩; rw [HZ.out]; have HX1 := (HX.below (below_alloc (Below.refl _ _) _)).below hb1; have A1 := A0.below hb1; have hz1 := hb1.size; (try simp at hz1); obtain ⟨hc1_0, hf1_0, hx1_0⟩ := bcell0 hb1 w.heap.size (by first | assumption | omega | (simp; done) | (simp; omega)))
    go_wp2_with fail
    (refine (toMeter_any _ _ z xs _ HX1 hl).mono ?_; rintro e w2 ⟨g, rfl, G, hg, hb2⟩; have HX2 := HX1.below hb2; have GX := G.rdI hm; have A2 := A1.below hb2; have hz2 := hb2.size; (try simp at hz2); obtain ⟨hc2_0, hf2_0, hx2_0⟩ := bcell0 hb2 w.heap.size (by first | assumption | omega | (simp; done) | (simp; omega)))
    go_wp2_with fail
    (refine (usesOfS_any _ _ z xs _ GX).mono ?_; rintro e w3 ⟨v1, rfl, O1, hb3⟩; rw [HOK.out]; rw [HUS.out] at O1; have HX3 := HX2.below hb3; have A3 := A2.below hb3; have hz3 := hb3.size; (try simp at hz3); obtain ⟨hc3_0, hf3_0, hx3_0⟩ := bcell0 hb3 w.heap.size (by first | assumption | omega | (simp; done) | (simp; omega)))
    go_wp2_with fail
    (refine (toMeter_any _ _ z xs _ HX3 hl).mono ?_; rintro e w4 ⟨g', rfl, G', hg', hb4⟩; have HX4 := HX3.below hb4; have GX' := G'.rdI hm; have A4 := A3.below hb4; have L1 := O1.lt; have O1 := O1.below hb4; have lg' := G'.lt; have hz4 := hb4.size; (try simp at hz4); obtain ⟨hc4_0, hf4_0, hx4_0⟩ := bcell0 hb4 w.heap.size (by first | assumption | omega | (simp; done) | (simp; omega)))
    go_wp2_with fail
    have X0 : Blk (w4.alloc (.cells #[.int .i64 z, .slice (some ⟨g', 0, none⟩) xs.length xs.length] 27)) w4.heap.size 27 [.int .i64 z, .slice (some ⟨g', 0, none⟩) xs.length xs.length] := Blk.new _ _ _
    (refine (usesOfI_any _ _ z xs _ (GX'.below (by repeat' (first | (with_reducible exact Below.refl _ _) | (with_reducible assumption) | (with_reducible refine below_drewN ?_ _) | (with_reducible refine Below.drew ?_) | (with_reducible refine below_alloc ?_ _) | (with_reducible refine Below.setCell ?_ ?_ _) | (with_reducible refine below_then ?_ (by assumption)) | omega | (simp; done) | (simp; omega))))).mono ?_; rintro e w5 ⟨v2, rfl, O2, hb5⟩; rw [HOK.out]; rw [HUS.out] at O2; have HX5 : RdI w5 A xs := (HX4.below (below_alloc (Below.refl _ _) _)).below hb5; have A5 : Blk w5 w.heap.size _ _ := (A4.below (below_alloc (Below.refl _ _) _)).below hb5; have X5 := X0.below hb5; have G5 : Blk w5 g' _ _ := (G'.below (below_alloc (Below.refl _ _) _)).below hb5; have O1 : OwnI w5 _ v1 us := (O1.below (below_alloc (Below.refl _ _) _)).below hb5; have hz5 := hb5.size; (try simp at hz5); obtain ⟨hc5_0, hf5_0, hx5_0⟩ := bcell0 hb5 w.heap.size (by first | assumption | omega | (simp; done) | (simp; omega)); obtain ⟨hc5_1, hf5_1, hx5_1⟩ := bcell0 hb5 w4.heap.size (by first | assumption | omega | (simp; done) | (simp; omega)))
    have L2 : ∀ k, v2.ownBlock = some k → w4.heap.size < k := fun k hk => by have := (O2.lt k hk).1; simp at this; omega
    have HN : v1.ownBlock = none ∨ v1.ownBlock ≠ v2.ownBlock := by
      cases h : v1.ownBlock with
      | none => exact .inl rfl
      | some k =>
        refine .inr fun he => ?_
        have h1 := (L1 k h).2
        have h2 := L2 k he.symm
        omega
    have HN1 : v1.ownBlock = none ∨ v1.ownBlock ≠ some g' := by
      cases h : v1.ownBlock with
      | none => exact .inl rfl
      | some k =>
        refine .inr fun he => ?_
        injection he with he
        have h1 := (L1 k h).2
        omega
    have HN2 : v2.ownBlock = none ∨ v2.ownBlock ≠ some g' := .inr fun he => by have := L2 g' he; omega
    have HNA : some w.heap.size ≠ v2.ownBlock := fun he => by have := L2 _ he.symm; omega
    have HNB : some w.heap.size ≠ some g' := fun he => by injection he; omega
    have HNC : ∀ k, v2.ownBlock = some k → w.heap.size ≤ k := fun k hk => by have := L2 k hk; omega
    have HND : ∀ k, some g' = some k → w.heap.size ≤ k := fun k hk => by injection hk; omega
    have HL := Lib.hid (And.intro HN (And.intro HN1 (And.intro HN2 (And.intro HNA (And.intro HNB (And.intro HNC HND))))))
    have HW5 : Below w.heap.size w w5 := (by repeat' (first | (with_reducible exact Below.refl _ _) | (with_reducible assumption) | (with_reducible refine below_drewN ?_ _) | (with_reducible refine Below.drew ?_) | (with_reducible refine below_alloc ?_ _) | (with_reducible refine Below.setCell ?_ ?_ _) | (with_reducible refine below_then ?_ (by assumption)) | omega | (simp; done) | (simp; omega)))
    clear L1 L2 HN HN1 HN2 HNA HNB HNC HND G' GX' G GX X0 hb1 hb2 hb3 hb4 hb5 A0 A1 A2 A3 A4 HX1 HX2 HX3 HX4
    go_wp2_with fail
    refine (eqOwnI_any O2 O1).mono ?_
    rintro r wy ⟨rfl, n, hwy⟩
    have HB : Below w5.heap.size w5 wy := by rw [hwy]; exact (by repeat' (first | (with_reducible exact Below.refl _ _) | (with_reducible assumption) | (with_reducible refine below_drewN ?_ _) | (with_reducible refine Below.drew ?_) | (with_reducible refine below_alloc ?_ _) | (with_reducible refine Below.setCell ?_ ?_ _) | (with_reducible refine below_then ?_ (by assumption)) | exact below_then (Below.drew (Below.refl _ _)) (by assumption) | omega | (simp; done) | (simp; omega)))
    have O1 := O1.below HB
    have O2 := O2.below HB
    have A6 := A5.below HB
    have X6 := X5.below HB
    have G6 := G5.below HB
    have HWY : Below w.heap.size w wy := below_then HW5 HB
    clear HB hwy A5 X5 G5 hc1_0 hf1_0 hx1_0 hc2_0 hf2_0 hx2_0 hc3_0 hf3_0 hx3_0 hc4_0 hf4_0 hx4_0 hc5_0 hf5_0 hx5_0 hc5_1 hf5_1 hx5_1 HX5
    have a0 := A6.c0; have a1 := A6.c1; have x0 := X6.c0; have x1 := X6.c1; have ax := A6.lt; have xx := X6.lt
    have HX6 := HX.below HWY
    have GX6 := G6.rdI hm
    go_upto_region 10 with fail
    go_cut [45] (fun s45 wx => s45 = .bool false ∧ Below wy.heap.size wy wx)
    case first =>
      go_region_with (first
        | (go_at_call 12; (refine (toMeter_any _ _ z xs _ (HX6.below (by repeat' (first | (with_reducible exact Below.refl _ _) | (with_reducible assumption) | (with_reducible refine below_drewN ?_ _) | (with_reducible refine Below.drew ?_) | (with_reducible refine below_alloc ?_ _) | (with_reducible refine Below.setCell ?_ ?_ _) | (with_reducible refine below_then ?_ (by assumption)) | exact below_then (Below.drew (Below.refl _ _)) (by assumption) | omega | (simp; done) | (simp; omega)))) hl).mono ?_; rintro e w6 ⟨g6, rfl, H6, hg6, hb6⟩; have HX6 := H6.rdI hm; have GX7 : RdI w6 _ xs := GX6.below (by repeat' (first | (with_reducible exact Below.refl _ _) | (with_reducible assumption) | (with_reducible refine below_drewN ?_ _) | (with_reducible refine Below.drew ?_) | (with_reducible refine below_alloc ?_ _) | (with_reducible refine Below.setCell ?_ ?_ _) | (with_reducible refine below_then ?_ (by assumption)) | exact below_then (Below.drew (Below.refl _ _)) (by assumption) | omega | (simp; done) | (simp; omega))); have hz6 := hb6.size; (try simp at hz6); obtain ⟨hc6_0, hf6_0, hx6_0⟩ := bcell0 hb6 w.heap.size (by first | assumption | omega | (simp; done) | (simp; omega)); obtain ⟨hc6_1, hf6_1, hx6_1⟩ := bcell0 hb6 w4.heap.size (by first | assumption | omega | (simp; done) | (simp; omega))))
        | (go_at_call 14; (refine (eqMeter_any _ _ _ _ z xs _ (GX7.below (by repeat' (first | (with_reducible exact Below.refl _ _) | (with_reducible assumption) | (with_reducible refine below_drewN ?_ _) | (with_reducible refine Below.drew ?_) | (with_reducible refine below_alloc ?_ _) | (with_reducible refine Below.setCell ?_ ?_ _) | (with_reducible refine below_then ?_ (by assumption)) | exact below_then (Below.drew (Below.refl _ _)) (by assumption) | omega | (simp; done) | (simp; omega)))) (HX6.below (by repeat' (first | (with_reducible exact Below.refl _ _) | (with_reducible assumption) | (with_reducible refine below_drewN ?_ _) | (with_reducible refine Below.drew ?_) | (with_reducible refine below_alloc ?_ _) | (with_reducible refine Below.setCell ?_ ?_ _) | (with_reducible refine below_then ?_ (by assumption)) | exact below_then (Below.drew (Below.refl _ _)) (by assumption) | omega | (simp; done) | (simp; omega))))).mono ?_; rintro e w7 ⟨rfl, hb7⟩; have hz7 := hb7.size; (try simp at hz7))))
      all_goals
        go_wp2_with fail
        go_meet
        exact ⟨rfl, (by repeat' (first | (with_reducible exact Below.refl _ _) | (with_reducible assumption) | (with_reducible refine below_drewN ?_ _) | (with_reducible refine Below.drew ?_) | (with_reducible refine below_alloc ?_ _) | (with_reducible refine Below.setCell ?_ ?_ _) | (with_reducible refine below_then ?_ (by assumption)) | exact below_then (Below.drew (Below.refl _ _)) (by assumption) | omega | (simp; done) | (simp; omega)))⟩
    case rest =>
      obtain ⟨rfl, HB⟩ := hcut
      have O1 := O1.below HB
      have O2 := O2.below HB
      have A7 := A6.below HB
      have X7 := X6.below HB
      have G7 := G6.below HB
      have HWX : Below w.heap.size w _ := below_then HWY HB
      clear HB A6 X6 G6 a0 a1 x0 x1 HX6 GX6 ax xx
      have x0 := X7.c0; have x1 := X7.c1
      go_wp2_with fail
      refine (markMeter_any g' 1 z xs _ G7 hl (by omega)).mono ?_
      rintro r w8 ⟨rfl, hg8⟩
      have O1 := O1.grown hg8 HL.out.2.1
      have O2 := O2.grown hg8 HL.out.2.2.1
      have A8 := Blk.grown A7 hg8 HL.out.2.2.2.2.1
      have HW8 : Below w.heap.size w w8 := Below.grown HWX hg8 HWX.size HL.out.2.2.2.2.2.2
      clear hg8 A7 X7 G7 x0 x1 HWX
      obtain ⟨y, hy⟩ : ∃ y, 1 + xs.length = y := ⟨_, rfl⟩
      rw [hy]
      have hy1 : 1 ≤ y := by omega
      clear hy
      go_wp2_with fail
      refine (eqOwnI_any O2 O1).mono ?_
      rintro r wz ⟨rfl, n, hwz⟩
      have HB : Below w8.heap.size w8 wz := by rw [hwz]; exact (by repeat' (first | (with_reducible exact Below.refl _ _) | (with_reducible assumption) | (with_reducible refine below_drewN ?_ _) | (with_reducible refine Below.drew ?_) | (with_reducible refine below_alloc ?_ _) | (with_reducible refine Below.setCell ?_ ?_ _) | (with_reducible refine below_then ?_ (by assumption)) | exact below_then (Below.drew (Below.refl _ _)) (by assumption) | omega | (simp; done) | (simp; omega)))
      have O1 := O1.below HB
      have O2 := O2.below HB
      have A9 := A8.below HB
      have HWZ : Below w.heap.size w wz := below_then HW8 HB
      clear HB hwz A8 HW8
      go_wp2_with fail
      refine (markOwnI_any 1 O2 (by omega) (by omega)).mono ?_
      rintro r w10 ⟨rfl, M2, hg10⟩
      have O1 := O1.grown hg10 HL.out.1
      have A10 := Blk.grown A9 hg10 HL.out.2.2.2.1
      have HW10 : Below w.heap.size w w10 := Below.grown HWZ hg10 HWZ.size HL.out.2.2.2.2.2.1
      clear hg10 A9 HWZ O2
      obtain ⟨t, ht⟩ : ∃ t, 1 + us.length = t := ⟨_, rfl⟩
      rw [ht]
      have HT := Lib.hid ht
      have ht1 : 1 ≤ t := by omega
      clear ht
      go_wp2_with fail
      refine (heldOwnI_any 1 us.length M2 (by omega) (by omega)).mono ?_
      rintro r w' ⟨rfl, rfl⟩
      rw [HT.out]
      have a0 := A10.c0; have a1 := A10.c1
      have HX10 := HX.below HW10
      go_wp2_with fail
      (refine (toMeter_any _ _ z xs _ HX10 hl).mono ?_; rintro e w11 ⟨g11, rfl, G11, hg11, hb11⟩; have O1 := O1.below hb11; have M2 := M2.below hb11; have GX11 := G11.rdI hm; have hz11 := hb11.size; (try simp at hz11))
      go_wp2_with fail
      (refine (usesOfI_any _ _ z xs _ GX11).mono ?_; rintro e w12 ⟨v3, rfl, O3, hb12⟩; rw [HOK.out]; rw [HUS.out] at O3; have O1 := O1.below hb12; have M2 := M2.below hb12; have hz12 := hb12.size; (try simp at hz12))
      have HW12 : Below w.heap.size w w12 := (by repeat' (first | (with_reducible exact Below.refl _ _) | (with_reducible assumption) | (with_reducible refine below_drewN ?_ _) | (with_reducible refine Below.drew ?_) | (with_reducible refine below_alloc ?_ _) | (with_reducible refine Below.setCell ?_ ?_ _) | (with_reducible refine below_then ?_ (by assumption)) | omega | (simp; done) | (simp; omega)))
      clear hb11 hb12
      go_wp2_with fail
      refine (eqOwnI_any O3 O1).mono ?_
      rintro r wq ⟨rfl, n, hwq⟩
      have HB : Below w12.heap.size w12 wq := by rw [hwq]; exact (by repeat' (first | (with_reducible exact Below.refl _ _) | (with_reducible assumption) | (with_reducible refine below_drewN ?_ _) | (with_reducible refine Below.drew ?_) | (with_reducible refine below_alloc ?_ _) | (with_reducible refine Below.setCell ?_ ?_ _) | (with_reducible refine below_then ?_ (by assumption)) | exact below_then (Below.drew (Below.refl _ _)) (by assumption) | omega | (simp; done) | (simp; omega)))
      have M2 := M2.below HB
      have HWQ : Below w.heap.size w wq := below_then HW12 HB
      clear HB hwq HW12
      go_wp2_with fail
      refine (heldOwnI_any 1 us.length M2 (by omega) (by omega)).mono ?_
      rintro r w' ⟨rfl, rfl⟩
      rw [HT.out]
      go_wp2_with fail
      go_ret
      exact ⟨rfl, HWQ⟩
end Go.Proofs.Ytiikjnokoihhgaa
