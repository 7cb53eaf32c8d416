/-
  Lists of meters: read, sized.
-/
import Derived.Test.YtiikjnokoihhgaaUo
import Derived.Test.YtiikjnokoihhgaaWi
namespace Go.Proofs.Ytiikjnokoihhgaa
open Go.RowKit Go.Fl Go.Lb

abbrev Mt := Int × List Int
/-- the meter at a place, closed to simp -/
def gm (ms : List Mt) (k : Nat) : Mt := ms.getD k (0, [])
theorem gm_eq {ms : List Mt} {k : Nat} (h : k < ms.length) : gm ms k = ms[k] := by simp [gm, List.getElem?_eq_getElem h]
/-- a list of meters that is read -/
def RdM (w : World) (A : Option Addr) (ms : List Mt) : Prop := ms.length ≤ 9223372036854775807 ∧ ∀ k, k < ms.length → ∃ ad A' c', A = some ad ∧ w.cell? (ad.add (k * 2)) = some (.int .i64 (gm ms k).1) ∧ w.cell? ⟨(ad.add (k * 2)).block, (ad.add (k * 2)).off + 1, none⟩ = some (.slice A' (gm ms k).2.length c') ∧ RdI w A' (gm ms k).2
theorem RdM.below {w w1 : World} {A : Option Addr} {ms : List Mt} (h : RdM w A ms) (hb : Below w.heap.size w w1) : RdM w1 A ms := by
  refine ⟨h.1, fun k hk => ?_⟩
  obtain ⟨ad, A', c', e, h1, h2, h3⟩ := h.2 k hk
  exact ⟨ad, A', c', e, cell_keep hb h1, cell_keep hb h2, h3.below hb⟩
/-- how many readings there are -/
def tot (ms : List Mt) (k : Nat) : Nat := ((ms.take k).map fun m => m.2.length).sum
theorem tot_step {ms : List Mt} {k : Nat} (h : k < ms.length) : tot ms (k + 1) = tot ms k + (gm ms k).2.length := by
  unfold tot
  rw [List.take_succ_eq_append_getElem h, List.map_append, List.sum_append, gm_eq h]
  simp
theorem tot_mono {ms : List Mt} : ∀ {j k : Nat}, j ≤ k → k ≤ ms.length → tot ms j ≤ tot ms k := by
  intro j k hjk hk
  induction k with
  | zero => obtain rfl : j = 0 := by omega
            exact Nat.le_refl _
  | succ k ih =>
    rcases Nat.lt_or_ge j (k + 1) with h | h
    · have h1 := ih (by omega) (by omega)
      rw [tot_step (by omega)]
      omega
    · obtain rfl : j = k + 1 := by omega
      exact Nat.le_refl _
theorem len_le_tot {ms : List Mt} {k : Nat} (h : k < ms.length) : (gm ms k).2.length ≤ tot ms ms.length := by
  have h1 := tot_step h
  have h2 := tot_mono (ms := ms) (j := k + 1) (k := ms.length) (by omega) (Nat.le_refl _)
  omega
def SzM (left : Int) (ms : List Mt) (w : World) (e : Ending) (w' : World) : Prop := ∃ r : Int, e = .returned (.int .i64 r) ∧ (r = -1 ∨ (0 ≤ r ∧ r = left - ms.length - tot ms ms.length)) ∧ Below w.heap.size w w'
set_option maxHeartbeats 1000000 in
theorem szMeterS_any (A : Option Addr) (c : Nat) (ms : List Mt) (left : Int) (w : World) (HX : RdM w A ms) (h0 : 0 ≤ left) (h1 : left ≤ 1048576) :
    Calls Try.prog 29 #[.slice A ms.length c, .int .i64 left] w (SzM left ms w) := by
  have hm := HX.1
  by_cases hneg : left - (ms.length : Int) < 0
  · go_enter Try.func29, Try.ntmps29
    go_wp2_with fail
    go_ret
    exact ⟨-1, rfl, .inl rfl, (by repeat' (first | (with_reducible exact Below.refl _ _) | (with_reducible assumption) | (with_reducible refine below_drewN ?_ _) | (with_reducible refine Below.drew ?_) | (with_reducible refine below_alloc ?_ _) | (with_reducible refine Below.setCell ?_ ?_ _) | (with_reducible refine below_then ?_ (by assumption)) | omega | (simp; done) | (simp; omega)))⟩
  · go_enter Try.func29, Try.ntmps29
    go_wp2_with fail
    go_loopw [1, 5] (fun lv kv wr => ∃ (k : Nat) (l : Int), k ≤ ms.length ∧ kv = .int .i64 k ∧ lv = .int .i64 l ∧ 0 ≤ l ∧ l ≤ left ∧ Hid (l = left - ms.length - tot ms k) ∧ Below w.heap.size w wr) (fun _ kv _ => ms.length - (intOf kv).toNat)
    case atStart => exact ⟨0, left - ms.length, Nat.zero_le _, rfl, rfl, by omega, by omega, (by simp [tot] : left - (ms.length : Int) = left - ms.length - tot ms 0), (by repeat' (first | (with_reducible exact Below.refl _ _) | (with_reducible assumption) | (with_reducible refine below_drewN ?_ _) | (with_reducible refine Below.drew ?_) | (with_reducible refine below_alloc ?_ _) | (with_reducible refine Below.setCell ?_ ?_ _) | (with_reducible refine below_then ?_ (by assumption)) | omega | (simp; done) | (simp; omega)))⟩
    case round =>
      obtain ⟨k, l, hk, rfl, rfl, hl0, hl1, hl, HW⟩ := hrel
      by_cases hlt : k < ms.length
      · have hki : (k : Int) < ms.length := by omega
        obtain ⟨ad, A', c', rfl, hc1, hc2, HI⟩ := (HX.below HW).2 k hlt
        have hm2 := HI.1
        have HS := Lib.hid (tot_step hlt)
        obtain ⟨n, hn⟩ : ∃ n, (gm ms k).2.length = n := ⟨_, rfl⟩
        obtain ⟨z, hz⟩ : ∃ z, (gm ms k).1 = z := ⟨_, rfl⟩
        rw [hn] at hc2 HS hm2
        rw [hz] at hc1
        clear hn hz HI
        go_wp2_with fail
        refine (szMeter_any A' c' n z l _ hm2 hl0 (by omega)).mono ?_
        rintro e w1 ⟨rfl, hb1⟩
        have HW1 := below_then HW hb1
        clear HW hb1 hc1 hc2
        rcases szM_le (left := l) (n := n) (by omega) with hz | ⟨hz, hz1⟩
        · have hs : szM l n = -1 := by unfold szM at *; split <;> simp_all
          rw [hs]
          clear hs hz
          go_wp2_with fail
          go_ret
          exact ⟨-1, rfl, .inl rfl, HW1⟩
        · rw [hz]
          clear hz
          go_wp2_with fail
          go_roundw
          case rel => exact ⟨k + 1, l - n, by omega, by go_num, rfl, by omega, by omega, (by rw [HS.out, hl.out]; omega : l - (n : Int) = left - ms.length - tot ms (k + 1)), HW1⟩
          case measure => simp [intOf]; omega
      · obtain rfl : k = ms.length := by omega
        have HL := Lib.hid hl.out
        go_wp2_with fail
        go_ret
        exact ⟨l, rfl, .inr ⟨hl0, HL.out⟩, HW⟩
end Go.Proofs.Ytiikjnokoihhgaa
