/-
  What was used between readings: the walks.
-/
import Derived.Test.YtiikjnokoihhgaaMx
import Derived.Test.YtiikjnokoihhgaaOi
import Derived.IntWalk
namespace Go.Proofs.Ytiikjnokoihhgaa
open Go.RowKit Go.Fl Go.Lb

/-- used up to the reading j, j from 1 on -/
def useAt (d : Nat) (xs : List Int) (j : Nat) : Int := if gi xs j - gi xs (j - 1) < 0 then gi xs j - gi xs (j - 1) + pw d else gi xs j - gi xs (j - 1)
def uses (d : Nat) (xs : List Int) : List Int := (List.range (xs.length - 1)).map fun i => useAt d xs (i + 1)
theorem uses_length (d : Nat) (xs : List Int) : (uses d xs).length = xs.length - 1 := by simp [uses]
theorem uses_step (d : Nat) (xs : List Int) {k : Nat} (h1 : 1 ≤ k) (hk : k < xs.length) : (uses d xs).take k = (uses d xs).take (k - 1) ++ [useAt d xs k] := by
  have h : (uses d xs).take (k - 1 + 1) = (uses d xs).take (k - 1) ++ [useAt d xs (k - 1 + 1)] := by
    rw [List.take_succ_eq_append_getElem (by rw [uses_length]; omega)]
    simp [uses]
  rwa [show k - 1 + 1 = k by omega] at h
theorem read_bounds {d : Nat} {xs : List Int} (h : readsOk d xs = true) {j : Nat} (hj : j < xs.length) : 0 ≤ gi xs j ∧ gi xs j ≤ (pw d : Int) - 1 := by
  unfold readsOk at h
  simp only [List.all_eq_true, List.mem_range] at h
  have := h j hj
  unfold readOk inB at this
  simpa using this
set_option maxHeartbeats 2000000 in
theorem l09Uses_any (p o d : Nat) (A : Option Addr) (c : Nat) (xs : List Int) (w : World) (h0 : w.cell? ⟨p, o, none⟩ = some (.int .i64 d)) (h1 : w.cell? ⟨p, o + 1, none⟩ = some (.slice A xs.length c)) (HX : RdI w A xs) (hd : d ≤ 9) (hr : readsOk d xs = true) (hn : xs.length ≤ 256) :
    Calls Try.prog 44 #[.pointer (some ⟨p, o, none⟩)] w fun e w' => ∃ v, e = .returned v ∧ OwnI w' w.heap.size v (uses d xs) ∧ Below w.heap.size w w' := by
  obtain ⟨i0, hI⟩ := info_parts infoI64
  have HI := Lib.hid hI
  have HR := Lib.hid hr
  have hp1 := pw_pos d
  have hp9 : pw d ≤ pw 9 := pw_le hd
  rw [pw_9] at hp9
  clear hI hr
  go_enter Try.func44, Try.ntmps44
  go_wp2_with fail
  have HO1 : OwnI (w.alloc (.cells #[] 2)) w.heap.size (.slice (some ⟨w.heap.size, 0, none⟩) 0 0) [] :=
    OwnI.of (xs := []) (ys := []) (Nat.le_refl _) (Blk.new w 2 []) (by simp) (by unfold maxLen; omega) (by simp)
  go_loopw [3, 4] (fun v i wr => ∃ (k : Nat) (qs : List Int), 1 ≤ k ∧ (k ≤ xs.length ∨ k = 1) ∧ i = .int .i64 k ∧ OwnI wr w.heap.size v qs ∧ Below w.heap.size w wr ∧ Hid (qs.length = k - 1 ∧ qs = (uses d xs).take (k - 1))) (fun _ i _ => xs.length - (intOf i).toNat)
  case atStart => exact ⟨1, [], Nat.le_refl _, .inr rfl, rfl, HO1, (by repeat' (first | (with_reducible exact Below.refl _ _) | (with_reducible assumption) | (with_reducible refine below_drewN ?_ _) | (with_reducible refine Below.drew ?_) | (with_reducible refine below_alloc ?_ _) | (with_reducible refine Below.setCell ?_ ?_ _) | (with_reducible refine below_then ?_ (by assumption)) | omega | (simp; done) | (simp; omega))), ⟨rfl, rfl⟩⟩
  case round =>
    obtain ⟨k, qs, hk1, hk, rfl, HO, HW, hq⟩ := hrel
    have k0 : wr.cell? ⟨p, o, none⟩ = some (.int .i64 d) := cell_keep HW h0
    have k1 : wr.cell? ⟨p, o + 1, none⟩ = some (.slice A xs.length c) := cell_keep HW h1
    by_cases hlt : k < xs.length
    · have hkk : k ≤ xs.length := by omega
      have hpi : (0 : Int) < k := by omega
      have hki : (k : Int) < xs.length := by omega
      obtain ⟨ad, rfl, hc⟩ := (HX.below HW).at_ hlt
      obtain ⟨ad', ea, hc'⟩ := (HX.below HW).at_ (show k - 1 < xs.length by omega)
      injection ea with ea
      subst ea
      obtain ⟨hx1, hx2⟩ := read_bounds HR.out hlt
      obtain ⟨hy1, hy2⟩ := read_bounds HR.out (show k - 1 < xs.length by omega)
      have HT := Lib.hid (uses_step d xs hk1 hlt)
      have HSZ := HW.size
      by_cases hneg : gi xs k - gi xs (k - 1) < 0
      · have HU : Hid (useAt d xs k = gi xs k - gi xs (k - 1) + pw d) := if_pos hneg
        go_wp2_with fail
        have hwr : IntKind.i64.wrap ((k : Int) - 1) = ((k - 1 : Nat) : Int) := (IntWalk.i64_in _ (by omega)).trans (by omega)
        have hws : IntKind.i64.wrap (gi xs k - gi xs (k - 1)) = gi xs k - gi xs (k - 1) := IntWalk.i64_in _ (by omega)
        have hki3 : ((k - 1 : Nat) : Int) < xs.length := by omega
        go_quiet (fail)
        clear hwr hws
        go_wp2_with (first | (go_at_call 52; refine (l09Power_any d hd _).mono ?_; rintro e w' ⟨rfl, rfl⟩) | (at_builtin; go_loud (refine wpList_append_own _ rfl _ _ 22 rfl w.heap.size 2 i0 (.int .i64 0) 1 8 Try.underlying22 HI.out.1 HI.out.2.1 HI.out.2.2.1 HI.out.2.2.2 rfl (by decide) _ _ _ rfl (by exact HO.below (by repeat' (first | (with_reducible exact Below.refl _ _) | (with_reducible assumption) | (with_reducible refine below_drewN ?_ _) | (with_reducible refine Below.drew ?_) | (with_reducible refine below_alloc ?_ _) | (with_reducible refine Below.setCell ?_ ?_ _) | (with_reducible refine below_then ?_ (by assumption)) | exact below_then (Below.drew (Below.refl _ _)) (by assumption) | omega | (simp; done) | (simp; omega)))) ⟨wr.heap.size, 0, none⟩ 1 1 [.int .i64 (gi xs k - gi xs (k - 1) + pw d)] rfl rfl (by intro j u hu; match j, hu with | 0, hu => (injection hu with hu; subst hu; rw [Addr.add_zero']; exact Blk.c0 (l := []) (Blk.new _ _ [_]))) (by intro u hu; simp at hu; subst hu; rfl) (by have := hq.out.1; unfold maxLen; omega) (by have := hq.out.1; omega) (by simp; omega) ?_; intro v' w2 hown hgr _; have HO2 : OwnI w2 w.heap.size v' (qs ++ [gi xs k - gi xs (k - 1) + pw d]) := (by unfold OwnI; simpa using hown); have HW2 : Below w.heap.size w w2 := Below.grown (by exact (by repeat' (first | (with_reducible exact Below.refl _ _) | (with_reducible assumption) | (with_reducible refine below_drewN ?_ _) | (with_reducible refine Below.drew ?_) | (with_reducible refine below_alloc ?_ _) | (with_reducible refine Below.setCell ?_ ?_ _) | (with_reducible refine below_then ?_ (by assumption)) | exact below_then (Below.drew (Below.refl _ _)) (by assumption) | omega | (simp; done) | (simp; omega)))) hgr (by simp; omega) (fun k hk => (HO.lt k hk).1); clear hown hgr)))
        go_roundw
        case rel => exact ⟨k + 1, qs ++ [gi xs k - gi xs (k - 1) + pw d], by omega, .inl (by omega), by go_num, HO2, HW2, ⟨by simp [hq.out.1]; omega, by rw [← HU.out]; exact (congrArg (· ++ [useAt d xs k]) hq.out.2).trans HT.out.symm⟩⟩
        case measure => simp [intOf]; omega
      · have HU : Hid (useAt d xs k = gi xs k - gi xs (k - 1)) := if_neg hneg
        go_wp2_with fail
        have hwr : IntKind.i64.wrap ((k : Int) - 1) = ((k - 1 : Nat) : Int) := (IntWalk.i64_in _ (by omega)).trans (by omega)
        have hws : IntKind.i64.wrap (gi xs k - gi xs (k - 1)) = gi xs k - gi xs (k - 1) := IntWalk.i64_in _ (by omega)
        have hki3 : ((k - 1 : Nat) : Int) < xs.length := by omega
        go_quiet (fail)
        clear hwr hws
        go_wp2_with (first | (go_at_call 52; refine (l09Power_any d hd _).mono ?_; rintro e w' ⟨rfl, rfl⟩) | (at_builtin; go_loud (refine wpList_append_own _ rfl _ _ 22 rfl w.heap.size 2 i0 (.int .i64 0) 1 8 Try.underlying22 HI.out.1 HI.out.2.1 HI.out.2.2.1 HI.out.2.2.2 rfl (by decide) _ _ _ rfl (by exact HO.below (by repeat' (first | (with_reducible exact Below.refl _ _) | (with_reducible assumption) | (with_reducible refine below_drewN ?_ _) | (with_reducible refine Below.drew ?_) | (with_reducible refine below_alloc ?_ _) | (with_reducible refine Below.setCell ?_ ?_ _) | (with_reducible refine below_then ?_ (by assumption)) | exact below_then (Below.drew (Below.refl _ _)) (by assumption) | omega | (simp; done) | (simp; omega)))) ⟨wr.heap.size, 0, none⟩ 1 1 [.int .i64 (gi xs k - gi xs (k - 1))] rfl rfl (by intro j u hu; match j, hu with | 0, hu => (injection hu with hu; subst hu; rw [Addr.add_zero']; exact Blk.c0 (l := []) (Blk.new _ _ [_]))) (by intro u hu; simp at hu; subst hu; rfl) (by have := hq.out.1; unfold maxLen; omega) (by have := hq.out.1; omega) (by simp; omega) ?_; intro v' w2 hown hgr _; have HO2 : OwnI w2 w.heap.size v' (qs ++ [gi xs k - gi xs (k - 1)]) := (by unfold OwnI; simpa using hown); have HW2 : Below w.heap.size w w2 := Below.grown (by exact (by repeat' (first | (with_reducible exact Below.refl _ _) | (with_reducible assumption) | (with_reducible refine below_drewN ?_ _) | (with_reducible refine Below.drew ?_) | (with_reducible refine below_alloc ?_ _) | (with_reducible refine Below.setCell ?_ ?_ _) | (with_reducible refine below_then ?_ (by assumption)) | exact below_then (Below.drew (Below.refl _ _)) (by assumption) | omega | (simp; done) | (simp; omega)))) hgr (by simp; omega) (fun k hk => (HO.lt k hk).1); clear hown hgr)))
        go_roundw
        case rel => exact ⟨k + 1, qs ++ [gi xs k - gi xs (k - 1)], by omega, .inl (by omega), by go_num, HO2, HW2, ⟨by simp [hq.out.1]; omega, by rw [← HU.out]; exact (congrArg (· ++ [useAt d xs k]) hq.out.2).trans HT.out.symm⟩⟩
        case measure => simp [intOf]; omega
    · have HE : Hid (qs = uses d xs) := by
        show _ = _
        rw [hq.out.2]
        exact List.take_of_length_le (by rw [uses_length]; omega)
      go_wp2_with fail
      go_ret
      exact ⟨_, rfl, HE.out ▸ HO, HW⟩
set_option maxHeartbeats 2000000 in
theorem usesI_any (p o d : Nat) (A : Option Addr) (c : Nat) (xs : List Int) (w : World) (h0 : w.cell? ⟨p, o, none⟩ = some (.int .i64 d)) (h1 : w.cell? ⟨p, o + 1, none⟩ = some (.slice A xs.length c)) (HX : RdI w A xs) (hd : d ≤ 9) (hr : readsOk d xs = true) (hn : xs.length ≤ 256) :
    Calls Try.prog 46 #[.pointer (some ⟨p, o, none⟩)] w fun e w' => ∃ v, e = .returned v ∧ OwnI w' w.heap.size v (uses d xs) ∧ Below w.heap.size w w' := by
  obtain ⟨i0, hI⟩ := info_parts infoI64
  have HI := Lib.hid hI
  have HR := Lib.hid hr
  have hp1 := pw_pos d
  have hp9 : pw d ≤ pw 9 := pw_le hd
  rw [pw_9] at hp9
  clear hI hr
  go_enter Try.func46, Try.ntmps46
  go_wp2_with fail
  have HO1 : OwnI (w.alloc (.cells #[] 2)) w.heap.size (.slice (some ⟨w.heap.size, 0, none⟩) 0 0) [] :=
    OwnI.of (xs := []) (ys := []) (Nat.le_refl _) (Blk.new w 2 []) (by simp) (by unfold maxLen; omega) (by simp)
  go_loopw [3, 4] (fun v i wr => ∃ (k : Nat) (qs : List Int), 1 ≤ k ∧ (k ≤ xs.length ∨ k = 1) ∧ i = .int .i64 k ∧ OwnI wr w.heap.size v qs ∧ Below w.heap.size w wr ∧ Hid (qs.length = k - 1 ∧ qs = (uses d xs).take (k - 1))) (fun _ i _ => xs.length - (intOf i).toNat)
  case atStart => exact ⟨1, [], Nat.le_refl _, .inr rfl, rfl, HO1, (by repeat' (first | (with_reducible exact Below.refl _ _) | (with_reducible assumption) | (with_reducible refine below_drewN ?_ _) | (with_reducible refine Below.drew ?_) | (with_reducible refine below_alloc ?_ _) | (with_reducible refine Below.setCell ?_ ?_ _) | (with_reducible refine below_then ?_ (by assumption)) | omega | (simp; done) | (simp; omega))), ⟨rfl, rfl⟩⟩
  case round =>
    obtain ⟨k, qs, hk1, hk, rfl, HO, HW, hq⟩ := hrel
    have k0 : wr.cell? ⟨p, o, none⟩ = some (.int .i64 d) := cell_keep HW h0
    have k1 : wr.cell? ⟨p, o + 1, none⟩ = some (.slice A xs.length c) := cell_keep HW h1
    by_cases hlt : k < xs.length
    · have hkk : k ≤ xs.length := by omega
      have hpi : (0 : Int) < k := by omega
      have hki : (k : Int) < xs.length := by omega
      obtain ⟨ad, rfl, hc⟩ := (HX.below HW).at_ hlt
      obtain ⟨ad', ea, hc'⟩ := (HX.below HW).at_ (show k - 1 < xs.length by omega)
      injection ea with ea
      subst ea
      obtain ⟨hx1, hx2⟩ := read_bounds HR.out hlt
      obtain ⟨hy1, hy2⟩ := read_bounds HR.out (show k - 1 < xs.length by omega)
      have HT := Lib.hid (uses_step d xs hk1 hlt)
      have HSZ := HW.size
      by_cases hneg : gi xs k - gi xs (k - 1) < 0
      · have HU : Hid (useAt d xs k = gi xs k - gi xs (k - 1) + pw d) := if_pos hneg
        go_wp2_with fail
        have hwr : IntKind.i64.wrap ((k : Int) - 1) = ((k - 1 : Nat) : Int) := (IntWalk.i64_in _ (by omega)).trans (by omega)
        have hws : IntKind.i64.wrap (gi xs k - gi xs (k - 1)) = gi xs k - gi xs (k - 1) := IntWalk.i64_in _ (by omega)
        have hki3 : ((k - 1 : Nat) : Int) < xs.length := by omega
        go_quiet (fail)
        clear hwr hws
        go_wp2_with (first | (go_at_call 42; refine (around_any p o d hd _ (by first | exact k0 | go_simp)).mono ?_; rintro e w' ⟨rfl, rfl⟩) | (at_builtin; go_loud (refine wpList_append_own _ rfl _ _ 22 rfl w.heap.size 2 i0 (.int .i64 0) 1 8 Try.underlying22 HI.out.1 HI.out.2.1 HI.out.2.2.1 HI.out.2.2.2 rfl (by decide) _ _ _ rfl (by exact HO.below (by repeat' (first | (with_reducible exact Below.refl _ _) | (with_reducible assumption) | (with_reducible refine below_drewN ?_ _) | (with_reducible refine Below.drew ?_) | (with_reducible refine below_alloc ?_ _) | (with_reducible refine Below.setCell ?_ ?_ _) | (with_reducible refine below_then ?_ (by assumption)) | exact below_then (Below.drew (Below.refl _ _)) (by assumption) | omega | (simp; done) | (simp; omega)))) ⟨wr.heap.size, 0, none⟩ 1 1 [.int .i64 (gi xs k - gi xs (k - 1) + pw d)] rfl rfl (by intro j u hu; match j, hu with | 0, hu => (injection hu with hu; subst hu; rw [Addr.add_zero']; exact Blk.c0 (l := []) (Blk.new _ _ [_]))) (by intro u hu; simp at hu; subst hu; rfl) (by have := hq.out.1; unfold maxLen; omega) (by have := hq.out.1; omega) (by simp; omega) ?_; intro v' w2 hown hgr _; have HO2 : OwnI w2 w.heap.size v' (qs ++ [gi xs k - gi xs (k - 1) + pw d]) := (by unfold OwnI; simpa using hown); have HW2 : Below w.heap.size w w2 := Below.grown (by exact (by repeat' (first | (with_reducible exact Below.refl _ _) | (with_reducible assumption) | (with_reducible refine below_drewN ?_ _) | (with_reducible refine Below.drew ?_) | (with_reducible refine below_alloc ?_ _) | (with_reducible refine Below.setCell ?_ ?_ _) | (with_reducible refine below_then ?_ (by assumption)) | exact below_then (Below.drew (Below.refl _ _)) (by assumption) | omega | (simp; done) | (simp; omega)))) hgr (by simp; omega) (fun k hk => (HO.lt k hk).1); clear hown hgr)))
        go_roundw
        case rel => exact ⟨k + 1, qs ++ [gi xs k - gi xs (k - 1) + pw d], by omega, .inl (by omega), by go_num, HO2, HW2, ⟨by simp [hq.out.1]; omega, by rw [← HU.out]; exact (congrArg (· ++ [useAt d xs k]) hq.out.2).trans HT.out.symm⟩⟩
        case measure => simp [intOf]; omega
      · have HU : Hid (useAt d xs k = gi xs k - gi xs (k - 1)) := if_neg hneg
        go_wp2_with fail
        have hwr : IntKind.i64.wrap ((k : Int) - 1) = ((k - 1 : Nat) : Int) := (IntWalk.i64_in _ (by omega)).trans (by omega)
        have hws : IntKind.i64.wrap (gi xs k - gi xs (k - 1)) = gi xs k - gi xs (k - 1) := IntWalk.i64_in _ (by omega)
        have hki3 : ((k - 1 : Nat) : Int) < xs.length := by omega
        go_quiet (fail)
        clear hwr hws
        go_wp2_with (first | (go_at_call 42; refine (around_any p o d hd _ (by first | exact k0 | go_simp)).mono ?_; rintro e w' ⟨rfl, rfl⟩) | (at_builtin; go_loud (refine wpList_append_own _ rfl _ _ 22 rfl w.heap.size 2 i0 (.int .i64 0) 1 8 Try.underlying22 HI.out.1 HI.out.2.1 HI.out.2.2.1 HI.out.2.2.2 rfl (by decide) _ _ _ rfl (by exact HO.below (by repeat' (first | (with_reducible exact Below.refl _ _) | (with_reducible assumption) | (with_reducible refine below_drewN ?_ _) | (with_reducible refine Below.drew ?_) | (with_reducible refine below_alloc ?_ _) | (with_reducible refine Below.setCell ?_ ?_ _) | (with_reducible refine below_then ?_ (by assumption)) | exact below_then (Below.drew (Below.refl _ _)) (by assumption) | omega | (simp; done) | (simp; omega)))) ⟨wr.heap.size, 0, none⟩ 1 1 [.int .i64 (gi xs k - gi xs (k - 1))] rfl rfl (by intro j u hu; match j, hu with | 0, hu => (injection hu with hu; subst hu; rw [Addr.add_zero']; exact Blk.c0 (l := []) (Blk.new _ _ [_]))) (by intro u hu; simp at hu; subst hu; rfl) (by have := hq.out.1; unfold maxLen; omega) (by have := hq.out.1; omega) (by simp; omega) ?_; intro v' w2 hown hgr _; have HO2 : OwnI w2 w.heap.size v' (qs ++ [gi xs k - gi xs (k - 1)]) := (by unfold OwnI; simpa using hown); have HW2 : Below w.heap.size w w2 := Below.grown (by exact (by repeat' (first | (with_reducible exact Below.refl _ _) | (with_reducible assumption) | (with_reducible refine below_drewN ?_ _) | (with_reducible refine Below.drew ?_) | (with_reducible refine below_alloc ?_ _) | (with_reducible refine Below.setCell ?_ ?_ _) | (with_reducible refine below_then ?_ (by assumption)) | exact below_then (Below.drew (Below.refl _ _)) (by assumption) | omega | (simp; done) | (simp; omega)))) hgr (by simp; omega) (fun k hk => (HO.lt k hk).1); clear hown hgr)))
        go_roundw
        case rel => exact ⟨k + 1, qs ++ [gi xs k - gi xs (k - 1)], by omega, .inl (by omega), by go_num, HO2, HW2, ⟨by simp [hq.out.1]; omega, by rw [← HU.out]; exact (congrArg (· ++ [useAt d xs k]) hq.out.2).trans HT.out.symm⟩⟩
        case measure => simp [intOf]; omega
    · have HE : Hid (qs = uses d xs) := by
        show _ = _
        rw [hq.out.2]
        exact List.take_of_length_le (by rw [uses_length]; omega)
      go_wp2_with fail
      go_ret
      exact ⟨_, rfl, HE.out ▸ HO, HW⟩
end Go.Proofs.Ytiikjnokoihhgaa
