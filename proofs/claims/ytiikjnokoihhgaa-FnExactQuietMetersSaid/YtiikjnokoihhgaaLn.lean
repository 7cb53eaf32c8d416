/-
  Lists of meters: copied.
-/
import Derived.Test.YtiikjnokoihhgaaLm
import Derived.Deep.OwnRows
namespace Go.Proofs.Ytiikjnokoihhgaa
open Go.RowKit Go.Fl Go.Lb Go.Deep

/-- cell i of a row of meters of which the first k are filled; the readings of meter j lie in block G j -/
def mcell (ms : List Mt) (G : Nat → Nat) (k i : Nat) : Value :=
  if i / 2 < k then (if i % 2 = 0 then .int .i64 (gm ms (i / 2)).1 else .slice (some ⟨G (i / 2), 0, none⟩) (gm ms (i / 2)).2.length (gm ms (i / 2)).2.length)
  else (if i % 2 = 0 then .int .i64 0 else .slice none 0 0)
def mrow (ms : List Mt) (G : Nat → Nat) (k : Nat) : List Value := (List.range (ms.length * 2)).map (mcell ms G k)
theorem mrow_at (ms : List Mt) (G : Nat → Nat) (k : Nat) {i : Nat} (h : i < ms.length * 2) : (mrow ms G k)[i]? = some (mcell ms G k i) := by
  unfold mrow
  rw [List.getElem?_map, List.getElem?_range h]
  rfl
theorem mcell_z {ms : List Mt} {G : Nat → Nat} {k j : Nat} (h : j < k) : mcell ms G k (j * 2) = .int .i64 (gm ms j).1 := by
  unfold mcell
  rw [Nat.mul_div_cancel _ (by decide), Nat.mul_mod_left, if_pos h, if_pos rfl]
theorem mcell_s {ms : List Mt} {G : Nat → Nat} {k j : Nat} (h : j < k) : mcell ms G k (j * 2 + 1) = .slice (some ⟨G j, 0, none⟩) (gm ms j).2.length (gm ms j).2.length := by
  unfold mcell
  rw [show (j * 2 + 1) / 2 = j by omega, show (j * 2 + 1) % 2 = 1 by omega, if_pos h, if_neg (by decide)]
theorem mcell_z0 {ms : List Mt} {G : Nat → Nat} {k j : Nat} (h : ¬ j < k) : mcell ms G k (j * 2) = .int .i64 0 := by
  unfold mcell
  rw [Nat.mul_div_cancel _ (by decide), Nat.mul_mod_left, if_neg h, if_pos rfl]
theorem mcell_s0 {ms : List Mt} {G : Nat → Nat} {k j : Nat} (h : ¬ j < k) : mcell ms G k (j * 2 + 1) = .slice none 0 0 := by
  unfold mcell
  rw [show (j * 2 + 1) / 2 = j by omega, show (j * 2 + 1) % 2 = 1 by omega, if_neg h, if_neg (by decide)]
theorem range_set (f : Nat → Value) (m i : Nat) (v : Value) : ((List.range m).map f).set i v = (List.range m).map fun j => if j = i then v else f j := by
  apply List.ext_getElem?
  intro j
  rw [List.getElem?_set]
  by_cases hij : i = j
  · subst hij
    by_cases hm : i < m
    · simp [hm]
    · simp [hm]
  · rw [if_neg hij]
    simp only [List.getElem?_map]
    cases h : (List.range m)[j]? with
    | none => rfl
    | some x =>
      have hx : x = j := by
        obtain ⟨hl, e⟩ := List.getElem?_eq_some_iff.1 h
        simpa using e.symm
      subst hx
      simp
      intro e
      exact absurd e.symm hij
def upd (G : Nat → Nat) (k g : Nat) : Nat → Nat := fun j => if j = k then g else G j
theorem mrow_set (ms : List Mt) (G : Nat → Nat) (k g : Nat) : ((mrow ms G k).set (k * 2) (.int .i64 (gm ms k).1)).set (k * 2 + 1) (.slice (some ⟨g, 0, none⟩) (gm ms k).2.length (gm ms k).2.length) = mrow ms (upd G k g) (k + 1) := by
  unfold mrow
  rw [range_set, range_set]
  apply List.map_congr_left
  intro i _
  by_cases h1 : i = k * 2 + 1
  · subst h1
    rw [if_pos rfl, mcell_s (by omega)]
    simp [upd]
  · rw [if_neg h1]
    by_cases h2 : i = k * 2
    · subst h2
      rw [if_pos rfl, mcell_z (by omega)]
    · rw [if_neg h2]
      unfold mcell
      by_cases h3 : i / 2 < k
      · rw [if_pos h3, if_pos (show i / 2 < k + 1 by omega)]
        have : upd G k g (i / 2) = G (i / 2) := by unfold upd; rw [if_neg (by omega)]
        rw [this]
      · rw [if_neg h3, if_neg (show ¬ i / 2 < k + 1 by omega)]
/-- a list of meters in blocks of its own -/
structure MB (w : World) (lo g : Nat) (G : Nat → Nat) (ms : List Mt) : Prop where
  row : Blk w g 27 (mrow ms G ms.length)
  ge : lo ≤ g
  blk : ∀ j, j < ms.length → Blk w (G j) 2 ((gm ms j).2.map iv) ∧ g < G j
  inc : ∀ i j, i < j → j < ms.length → G i < G j
theorem MB.below {w w1 : World} {lo g : Nat} {G : Nat → Nat} {ms : List Mt} (h : MB w lo g G ms) (hb : Below w.heap.size w w1) : MB w1 lo g G ms :=
  ⟨h.row.below hb, h.ge, fun j hj => ⟨(h.blk j hj).1.below hb, (h.blk j hj).2⟩, h.inc⟩
theorem MB.rdM {w : World} {lo g : Nat} {G : Nat → Nat} {ms : List Mt} (h : MB w lo g G ms) (hn : ms.length ≤ 1048576) (hl : ∀ j, j < ms.length → (gm ms j).2.length ≤ 1048576) : RdM w (some ⟨g, 0, none⟩) ms := by
  refine ⟨by omega, fun k hk => ⟨_, some ⟨G k, 0, none⟩, (gm ms k).2.length, rfl, ?_, ?_, (h.blk k hk).1.rdI (by have := hl k hk; omega)⟩⟩
  · rw [addr_add, h.row.cell, mrow_at _ _ _ (by omega), mcell_z hk]
  · rw [addr_add]
    show w.cell? ⟨g, k * 2 + 1, none⟩ = _
    rw [h.row.cell, mrow_at _ _ _ (by omega), mcell_s hk]
theorem infoMeter : (Try.prog.info? 27).map (fun i => (i.zero, i.size, i.bytes)) = some (some (.agg #[.int .i64 0, .slice none 0 0]), 2, 32) := by kernel_rfl
theorem run_make_meters (ms : List Mt) (G : Nat → Nat) (hn : ms.length ≤ 1048576) (W : World) : (Instr.makeSlice 49 (.int .i64 (ms.length : Int)) (.int .i64 (ms.length : Int))).run Try.prog W = .ok (.slice (some ⟨W.heap.size, 0, none⟩) ms.length ms.length) (W.alloc (.cells (mrow ms G 0).toArray 27)) := by
  obtain ⟨i, hi, hzz⟩ := Option.map_eq_some_iff.1 infoMeter
  simp only [Prod.mk.injEq] at hzz
  obtain ⟨hz, hs, hb⟩ := hzz
  have h := run_make (P := Try.prog) W 49 27 i _ Try.underlying49 hi hz .i64 .i64 (ms.length : Int) (ms.length : Int) (by omega) (Int.le_refl _) (by rw [hb]; omega) (by omega)
  rw [h]
  have e : madeCells (Value.agg #[.int .i64 0, .slice none 0 0]).cells ((ms.length : Int).toNat * i.size) = (mrow ms G 0).toArray := by
    rw [hs, Int.toNat_natCast]
    apply Array.ext_getElem?
    intro j
    by_cases hj : j < ms.length * 2
    · have e2 : (mrow ms G 0).toArray[j]? = (mrow ms G 0)[j]? := by simp
      rw [e2, mrow_at _ _ _ hj]
      have h2 : j % 2 = 0 ∨ j % 2 = 1 := by omega
      unfold mcell
      rcases h2 with h2 | h2
      · simp [madeCells, hj, h2, Value.cells]
      · simp [madeCells, hj, h2, Value.cells]
    · unfold mrow
      simp [madeCells, hj]
  rw [e]
  rfl
set_option maxHeartbeats 1000000 in
theorem toMeterS_any (A : Option Addr) (c : Nat) (ms : List Mt) (w : World) (HX : RdM w A ms) (hn : ms.length ≤ 1048576) (hl : ∀ j, j < ms.length → (gm ms j).2.length ≤ 1048576) :
    Calls Try.prog 31 #[.slice A ms.length c] w fun e w' => ∃ g G, e = .returned (.slice (some ⟨g, 0, none⟩) ms.length ms.length) ∧ MB w' w.heap.size g G ms ∧ Below w.heap.size w w' := by
  have hmk := run_make_meters ms (fun _ => 0) hn
  have HLL := Lib.hid hl
  clear hl
  go_enter Try.func31, Try.ntmps31
  go_wp2_with fail
  go_loopw [4] (fun i wr => ∃ (k : Nat) (G : Nat → Nat), k ≤ ms.length ∧ i = .int .i64 k ∧ Blk wr w.heap.size 27 (mrow ms G k) ∧ Below w.heap.size w wr ∧ Hid ((∀ j, j < k → Blk wr (G j) 2 ((gm ms j).2.map iv) ∧ w.heap.size < G j) ∧ ∀ i j, i < j → j < k → G i < G j)) (fun i _ => ms.length - (intOf i).toNat)
  case atStart => exact ⟨0, fun _ => 0, Nat.zero_le _, rfl, Blk.new _ _ _, (by repeat' (first | (with_reducible exact Below.refl _ _) | (with_reducible assumption) | (with_reducible refine below_drewN ?_ _) | (with_reducible refine Below.drew ?_) | (with_reducible refine below_alloc ?_ _) | (with_reducible refine Below.setCell ?_ ?_ _) | (with_reducible refine below_then ?_ (by assumption)) | omega | (simp; done) | (simp; omega))), ⟨fun j hj => absurd hj (by omega), fun i j _ hj => absurd hj (by omega)⟩⟩
  case round =>
    obtain ⟨k, G, hk, rfl, HB, HW, hG⟩ := hrel
    clear hmk
    by_cases hlt : k < ms.length
    · have hki : (k : Int) < ms.length := by omega
      obtain ⟨ad, A', c', rfl, hc1, hc2, HI⟩ := (HX.below HW).2 k hlt
      have hlk := HLL.out k hlt
      have HSET := Lib.hid (mrow_set ms G k)
      obtain ⟨xs, hx⟩ : ∃ xs, (gm ms k).2 = xs := ⟨_, rfl⟩
      obtain ⟨z, hz⟩ : ∃ z, (gm ms k).1 = z := ⟨_, rfl⟩
      rw [hx] at hc2 HI hlk
      rw [hz] at hc1
      have HXZ := Lib.hid (And.intro hx hz)
      clear hx hz
      go_wp2_with fail
      refine (toMeter_any A' c' z xs _ HI hlk).mono ?_
      rintro e w1 ⟨g', rfl, G', hg', hb1⟩
      have HB1 := HB.below hb1
      have HW1 := below_then HW hb1
      have hO := HB.lt
      have d0 : w1.cell? ⟨w.heap.size, k * 2, none⟩ = some (.int .i64 0) := by rw [HB1.cell, mrow_at _ _ _ (by omega), mcell_z0 (by omega)]
      have d1 : w1.cell? ⟨w.heap.size, k * 2 + 1, none⟩ = some (.slice none 0 0) := by rw [HB1.cell, mrow_at _ _ _ (by omega), mcell_s0 (by omega)]
      have z0 := HB1.frozen (k * 2)
      have z1 := HB1.frozen (k * 2 + 1)
      have HS := (HB1.set (k * 2) (.int .i64 z)).set (k * 2 + 1) (.slice (some ⟨g', 0, none⟩) xs.length xs.length)
      have hset := HSET.out g'
      rw [HXZ.out.1, HXZ.out.2] at hset
      rw [hset] at HS
      have HW2 := (HW1.setCell (p := ⟨w.heap.size, k * 2, none⟩) (Nat.le_refl _) (.int .i64 z)).setCell (p := ⟨w.heap.size, k * 2 + 1, none⟩) (Nat.le_refl _) (.slice (some ⟨g', 0, none⟩) xs.length xs.length)
      have hwr := HB.lt
      have HG2 : Hid ((∀ j, j < k + 1 → Blk ((w1.setCell ⟨w.heap.size, k * 2, none⟩ (.int .i64 z)).setCell ⟨w.heap.size, k * 2 + 1, none⟩ (.slice (some ⟨g', 0, none⟩) xs.length xs.length)) (upd G k g' j) 2 ((gm ms j).2.map iv) ∧ w.heap.size < upd G k g' j) ∧ ∀ i j, i < j → j < k + 1 → upd G k g' i < upd G k g' j) := by
        refine ⟨fun j hj => ?_, fun i j hij hj => ?_⟩
        · by_cases hjk : j = k
          · subst hjk
            have e : upd G j g' j = g' := by simp [upd]
            rw [e, HXZ.out.1]
            exact ⟨(G'.other (show w.heap.size ≠ g' by omega) _).other (show w.heap.size ≠ g' by omega) _, by omega⟩
          · have e : upd G k g' j = G j := by unfold upd; rw [if_neg hjk]
            rw [e]
            obtain ⟨h1, h2⟩ := hG.out.1 j (by omega)
            exact ⟨((h1.below hb1).other (show w.heap.size ≠ G j by omega) _).other (show w.heap.size ≠ G j by omega) _, h2⟩
        · have ei : upd G k g' i = G i := by unfold upd; rw [if_neg (by omega)]
          rw [ei]
          by_cases hjk : j = k
          · subst hjk
            have e : upd G j g' j = g' := by simp [upd]
            rw [e]
            have := (hG.out.1 i hij).1.lt
            omega
          · have e : upd G k g' j = G j := by unfold upd; rw [if_neg hjk]
            rw [e]
            exact hG.out.2 i j hij (by omega)
      clear hset HSET HB HB1 HW HW1 G' hb1 hc1 hc2 HI
      go_wp2_with fail
      go_roundw
      case rel => exact ⟨k + 1, upd G k g', by omega, by go_num, HS, HW2, HG2⟩
      case measure => simp [intOf]; omega
    · obtain rfl : k = ms.length := by omega
      go_wp2_with fail
      go_ret
      exact ⟨w.heap.size, G, rfl, ⟨HB, Nat.le_refl _, hG.out.1, hG.out.2⟩, HW⟩
end Go.Proofs.Ytiikjnokoihhgaa
