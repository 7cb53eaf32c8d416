/-
  Lists of meters: compared, marked.
-/
import Derived.Test.YtiikjnokoihhgaaLn
import Derived.Test.YtiikjnokoihhgaaMs
namespace Go.Proofs.Ytiikjnokoihhgaa
open Go.RowKit Go.Fl Go.Lb

set_option maxHeartbeats 1000000 in
theorem eqMeterS_any (A B : Option Addr) (c d : Nat) (ms : List Mt) (w : World) (HX : RdM w A ms) (HY : RdM w B ms) :
    Calls Try.prog 33 #[.slice A ms.length c, .slice B ms.length d] w fun e w' => e = .returned (.bool true) ∧ Below w.heap.size w w' := by
  have hm := HX.1
  go_enter Try.func33, Try.ntmps33
  go_wp2_with fail
  go_loopw [5] (fun i wr => ∃ k : Nat, k ≤ ms.length ∧ i = .int .i64 k ∧ Below w.heap.size w wr) (fun i _ => ms.length - (intOf i).toNat)
  case atStart => exact ⟨0, Nat.zero_le _, rfl, Below.refl _ _⟩
  case round =>
    obtain ⟨k, hk, rfl, HW⟩ := hrel
    by_cases hlt : k < ms.length
    · have hki : (k : Int) < ms.length := by omega
      obtain ⟨ad, A', c', rfl, hc1, hc2, HI⟩ := (HX.below HW).2 k hlt
      obtain ⟨bd, B', d', rfl, hd1, hd2, HJ⟩ := (HY.below HW).2 k hlt
      obtain ⟨xs, hx⟩ : ∃ xs, (gm ms k).2 = xs := ⟨_, rfl⟩
      obtain ⟨z, hz⟩ : ∃ z, (gm ms k).1 = z := ⟨_, rfl⟩
      rw [hx] at hc2 HI hd2 HJ
      rw [hz] at hc1 hd1
      clear hx hz
      go_wp2_with fail
      go_region_with (go_at_call 14; refine (eqMeter_any A' B' c' d' z xs _ (HI.below (by repeat' (first | (with_reducible exact Below.refl _ _) | (with_reducible assumption) | (with_reducible refine below_drewN ?_ _) | (with_reducible refine Below.drew ?_) | (with_reducible refine below_alloc ?_ _) | (with_reducible refine Below.setCell ?_ ?_ _) | (with_reducible refine below_then ?_ (by assumption)) | exact below_then (Below.drew (Below.refl _ _)) (by assumption) | omega | (simp; done) | (simp; omega)))) (HJ.below (by repeat' (first | (with_reducible exact Below.refl _ _) | (with_reducible assumption) | (with_reducible refine below_drewN ?_ _) | (with_reducible refine Below.drew ?_) | (with_reducible refine below_alloc ?_ _) | (with_reducible refine Below.setCell ?_ ?_ _) | (with_reducible refine below_then ?_ (by assumption)) | exact below_then (Below.drew (Below.refl _ _)) (by assumption) | omega | (simp; done) | (simp; omega))))).mono ?_; rintro e w1 ⟨rfl, hb1⟩)
      all_goals
        have HW1 : Below w.heap.size w w1 := below_then HW (show Below wr.heap.size wr w1 from (by repeat' (first | (with_reducible exact Below.refl _ _) | (with_reducible assumption) | (with_reducible refine below_drewN ?_ _) | (with_reducible refine Below.drew ?_) | (with_reducible refine below_alloc ?_ _) | (with_reducible refine Below.setCell ?_ ?_ _) | (with_reducible refine below_then ?_ (by assumption)) | exact below_then (Below.drew (Below.refl _ _)) (by assumption) | omega | (simp; done) | (simp; omega))))
        clear hb1 HW hc1 hc2 hd1 hd2 HI HJ
        go_wp2_with fail
        go_roundw
        case rel => exact ⟨k + 1, by omega, by go_num, HW1⟩
        case measure => simp [intOf]; omega
    · obtain rfl : k = ms.length := by omega
      go_wp2_with fail
      go_ret
      exact ⟨rfl, HW⟩
/-- the row of a list of meters whose first marks are set -/
def MInv (wr : World) (g : Nat) (G : Nat → Nat) (ms : List Mt) (k : Nat) : Prop := ∃ cs : List Value, Blk wr g 27 cs ∧
  (∀ j, j < ms.length → cs[j * 2 + 1]? = some (.slice (some ⟨G j, 0, none⟩) (gm ms j).2.length (gm ms j).2.length) ∧ ∃ z, cs[j * 2]? = some (.int .i64 z)) ∧
  ∀ j, k ≤ j → j < ms.length → Blk wr (G j) 2 ((gm ms j).2.map iv)
set_option maxHeartbeats 2000000 in
theorem markMeterS_any (g a lo hi : Nat) (G : Nat → Nat) (ms : List Mt) (w : World) (HM : MB w lo g G ms) (hA : a + ms.length + tot ms ms.length ≤ 2097152) (hT : tot ms ms.length ≤ 1048576) (hlt : g < hi) (hhi : ∀ j, j < ms.length → G j < hi) :
    Calls Try.prog 34 #[.slice (some ⟨g, 0, none⟩) ms.length ms.length, .int .i64 a] w fun e w' => e = .returned (.int .i64 ((a + ms.length + tot ms ms.length : Nat) : Int)) ∧ Wi lo hi w w' := by
  have HH := Lib.hid hhi
  have hge := HM.ge
  have HI0 : Hid (MInv w g G ms 0) := ⟨_, HM.row, fun j hj => ⟨by rw [mrow_at _ _ _ (by omega), mcell_s hj], _, by rw [mrow_at _ _ _ (by omega), mcell_z hj]⟩, fun j _ hj => (HM.blk j hj).1⟩
  have HGG : Hid ((∀ j, j < ms.length → g < G j) ∧ ∀ i j, i < j → j < ms.length → G i < G j) := ⟨fun j hj => (HM.blk j hj).2, HM.inc⟩
  have hts : ∀ j, j ≤ ms.length → tot ms j ≤ tot ms ms.length := fun j hj => tot_mono hj (Nat.le_refl _)
  have HTS := Lib.hid hts
  clear hhi HM hts
  go_enter Try.func34, Try.ntmps34
  go_wp2_with fail
  go_loopw [1, 5] (fun av kv wr => ∃ k b : Nat, k ≤ ms.length ∧ kv = .int .i64 k ∧ av = .int .i64 b ∧ Hid (b = a + k + tot ms k) ∧ Hid (MInv wr g G ms k) ∧ Wi lo hi w wr) (fun _ kv _ => ms.length - (intOf kv).toNat)
  case atStart => exact ⟨0, a, Nat.zero_le _, rfl, rfl, (by simp [tot] : a = a + 0 + tot ms 0), HI0, Wi.refl _ _ _⟩
  case round =>
    obtain ⟨k, b, hk, rfl, rfl, hb, hI, HW⟩ := hrel
    have hbb : b ≤ 2097152 := by have h1 := hb.out; have h2 := HTS.out k hk; omega
    by_cases hltk : k < ms.length
    · have hki : (k : Int) < ms.length := by omega
      obtain ⟨cs, HB, hcs, hbl⟩ := hI.out
      obtain ⟨s1, z, s0⟩ := hcs k hltk
      have d0 : wr.cell? ⟨g, k * 2, none⟩ = some (.int .i64 z) := by rw [HB.cell]; exact s0
      have z0 := HB.frozen (k * 2)
      have HB2 := HB.set (k * 2) (.int .i64 (b : Int))
      have d1 : (wr.setCell ⟨g, k * 2, none⟩ (.int .i64 (b : Int))).cell? ⟨g, k * 2 + 1, none⟩ = some (.slice (some ⟨G k, 0, none⟩) (gm ms k).2.length (gm ms k).2.length) := by
        rw [HB2.cell, List.getElem?_set_ne (by omega)]
        exact s1
      have hGk := HGG.out.1 k hltk
      have hGh := HH.out k hltk
      have HBk : Blk (wr.setCell ⟨g, k * 2, none⟩ (.int .i64 (b : Int))) (G k) 2 ((gm ms k).2.map iv) := (hbl k (Nat.le_refl _) hltk).other (show g ≠ G k by omega) _
      have HW2 : Wi lo hi w (wr.setCell ⟨g, k * 2, none⟩ (.int .i64 (b : Int))) := HW.trans (Wi.mono (Wi.set (O := g) (Wi.refl _ _ _) _ _) (by omega) (by omega))
      have HTK := Lib.hid (tot_step hltk)
      have hlen : (gm ms k).2.length ≤ 1048576 := Nat.le_trans (len_le_tot hltk) hT
      have hlk : b + 1 + (gm ms k).2.length ≤ 2097152 + 1 := by
        have h1 := hb.out
        have h2 := HTS.out (k + 1) (by omega)
        have h3 := HTK.out
        omega
      have HREST : Hid (∀ wy, Wi (G k) (G k + 1) (wr.setCell ⟨g, k * 2, none⟩ (.int .i64 (b : Int))) wy → MInv wy g G ms (k + 1) ∧ Wi lo hi w wy) := fun wy hwy => by
        refine ⟨⟨_, HB2.wi hwy (.inl hGk), fun j hj => ?_, fun j hkj hj => ?_⟩, HW2.trans (Wi.mono hwy (by omega) (by omega))⟩
        · obtain ⟨t1, zj, t0⟩ := hcs j hj
          refine ⟨by rw [List.getElem?_set_ne (by omega)]; exact t1, ?_⟩
          by_cases hjk : j = k
          · subst hjk
            exact ⟨b, by rw [List.getElem?_set_self (by obtain ⟨h, _⟩ := List.getElem?_eq_some_iff.1 s0; exact h)]⟩
          · exact ⟨zj, by rw [List.getElem?_set_ne (by omega)]; exact t0⟩
        · have h1 := HGG.out.2 k j (by omega) hj
          exact ((hbl j (by omega) hj).other (show g ≠ G j by have := HGG.out.1 j hj; omega) _).wi hwy (.inr (by omega))
      obtain ⟨xs, hx⟩ : ∃ xs, (gm ms k).2 = xs := ⟨_, rfl⟩
      rw [hx] at d1 HBk HTK hlk hlen
      clear hx hI HB HB2 hcs hbl s1 s0 HW HW2
      go_wp2_with fail
      have hlx : xs.length ≤ 2097152 := by omega
      refine (markInt64S_any (G k) xs.length (b + 1) xs [] _ (by simpa using HBk) hlen (by omega)).mono ?_
      rintro e wy ⟨rfl, _, hg⟩
      obtain ⟨I2, W2⟩ := HREST.out wy (Wi.of_grown hg (fun j hj => by injection hj with hj; omega))
      have HI2 := Lib.hid I2
      clear hg HREST I2 d0 d1 z0 HBk
      obtain ⟨y, hy⟩ : ∃ y, b + 1 + xs.length = y := ⟨_, rfl⟩
      rw [hy]
      have HY : Hid (y = a + (k + 1) + tot ms (k + 1)) := by
        show _ = _
        rw [HTK.out, ← hy, hb.out]
        omega
      clear hy
      go_wp2_with fail
      go_roundw
      case rel => exact ⟨k + 1, y, by omega, by go_num, rfl, HY, HI2, W2⟩
      case measure => simp [intOf]; omega
    · obtain rfl : k = ms.length := by omega
      have HBO := Lib.hid hb.out
      go_wp2_with fail
      go_ret
      exact ⟨ret_int (by rw [HBO.out]), HW⟩
end Go.Proofs.Ytiikjnokoihhgaa
