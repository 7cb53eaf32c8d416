/-
  QuietMeters: the plain part; whether a float32 is finite.
-/
import Derived.Test.YtiikjnokoihhgaaLp
import Derived.Test.YtiikjnokoihhgaaNr
import Derived.Test.YtiikjnokoihhgaaLg
namespace Go.Proofs.Ytiikjnokoihhgaa
open Go.RowKit Go.Fl Go.Lb Ieee

/-- 'x - x == 0' -/
def fin (x : Nat) : Bool := cf .f32 (fb .sub .f32 (cn .f32 x) (cn .f32 x)) 0 == some .eq
theorem fin_of {r x : Nat} (h : cn .f32 r = fb .sub .f32 (cn .f32 x) (cn .f32 x)) : (cf .f32 r 0 == some .eq) = fin x := by
  unfold fin
  rw [cf_congr (h.trans (cn_fb _ _ _ _).symm) rfl]
theorem fin_number {x : Nat} (h : fin x = true) : ∃ s m e, FloatKind.f32.format.read x = .number s m e := by
  unfold fin at h
  rw [fb_cn_left, fb_cn_right] at h
  cases hr : FloatKind.f32.format.read x with
  | number s m e => exact ⟨s, m, e, rfl⟩
  | infinity s =>
    exfalso
    have : fb .sub .f32 x x = qn .f32 := by
      unfold fb floatBits Ieee.Format.sub
      rw [hr]
      cases s <;> rfl
    rw [this, cf_eq, order_nan _ (isN_qn .f32)] at h
    simp at h
  | nan s t =>
    exfalso
    have : fb .sub .f32 x x = qn .f32 := by
      unfold fb floatBits Ieee.Format.sub
      rw [hr]
      rfl
    rw [this, cf_eq, order_nan _ (isN_qn .f32)] at h
    simp at h
theorem fin_num {x : Nat} (h : fin x = true) : isN .f32 x = false := by
  obtain ⟨s, m, e, hr⟩ := fin_number h
  unfold isN
  rw [hr]
  rfl
/-- a finite float32 widened is a number -/
theorem wide_number {x : Nat} (h : fin x = true) : ∃ s m e, FloatKind.f64.format.read (wb x) = .number s m e := by
  obtain ⟨s, m, e, hr⟩ := fin_number h
  have hn := fin_num h
  obtain ⟨b1, b2, b3⟩ := read32_bound hr
  have hi := wide_not_inf (s := s) b1 b2 b3
  have hw : wb x = FloatKind.f64.format.write (.number s m e) := by
    unfold wb
    rw [hn, if_neg (by decide)]
    have : FloatKind.f32.decode x = .number s m e := hr
    rw [this]
    unfold FloatKind.encode
    rfl
  have hN : isN .f64 (wb x) = false := by rw [hw]; exact isN_write .f64 rfl
  rw [hw]
  cases hc : FloatKind.f64.format.read (FloatKind.f64.format.write (.number s m e)) with
  | number s m e => exact ⟨s, m, e, rfl⟩
  | infinity s => rw [hc] at hi; cases hi
  | nan s t =>
    rw [hw] at hN
    unfold isN at hN
    rw [hc] at hN
    cases hN
theorem mul_some {x y : Nat} (hx : ∃ s m e, FloatKind.f64.format.read x = .number s m e) (hy : ∃ s m e, FloatKind.f64.format.read y = .number s m e) : ∃ r, floatBits .mul .f64 x y = some r := by
  obtain ⟨s, m, e, hx⟩ := hx
  obtain ⟨s', m', e', hy⟩ := hy
  exact ⟨_, by show Ieee.Format.mul _ _ _ = _; unfold Ieee.Format.mul; rw [hx, hy]; rfl⟩
/-- a meter is quiet -/
def quietB (sh : Nat) (us : List Int) : Bool := cf .f64 (fI (gi us (us.length - 1)).toNat) (fb .mul .f64 (wb sh) (fb .quo .f64 (fI (us.take (us.length - 1)).sum.toNat) (fI (us.length - 1)))) == some .lt
theorem sum_take_bound {us : List Int} (h : small us) (k : Nat) (hk : k ≤ us.length) : 0 ≤ (us.take k).sum ∧ (us.take k).sum ≤ k * 1000000000 := psum_bound h k hk
theorem quiet_facts {us : List Int} {sh : Nat} (hs : small us) (hn : us.length ≤ 256) (h2 : 2 ≤ us.length) (hf : fin sh = true) : ∃ (T L Q R : Nat), (us.take (us.length - 1)).sum = (T : Int) ∧ gi us (us.length - 1) = (L : Int) ∧ L ≤ 1000000000 ∧
    (∀ W, fv W .quo .f64 (fI T) (fI (us.length - 1)) = Q) ∧ fd .quo .f64 (fI T) (fI (us.length - 1)) = 0 ∧ (∀ W, fv W .mul .f64 (wb sh) Q = R) ∧ fd .mul .f64 (wb sh) Q = 0 ∧ (cf .f64 (fI L) R == some .lt) = quietB sh us := by
  have b1 := sum_take_bound hs (us.length - 1) (by omega)
  have b2 := hs (us.length - 1) (by omega)
  obtain ⟨T, hT⟩ : ∃ T : Nat, (us.take (us.length - 1)).sum = (T : Int) := ⟨(us.take (us.length - 1)).sum.toNat, by omega⟩
  obtain ⟨L, hL⟩ : ∃ L : Nat, gi us (us.length - 1) = (L : Int) := ⟨(gi us (us.length - 1)).toNat, by omega⟩
  obtain ⟨q, hq, s, m, p, hqn, _⟩ := fI_quo (a := T) (b := us.length - 1) (by omega) (by omega) (by omega)
  obtain ⟨r, hr⟩ := mul_some (wide_number hf) ⟨s, m, p, hqn⟩
  have e1 : fb .quo .f64 (fI T) (fI (us.length - 1)) = q := by unfold fb; rw [hq]; rfl
  have e2 : fb .mul .f64 (wb sh) q = r := by unfold fb; rw [hr]; rfl
  refine ⟨T, L, q, r, hT, hL, by omega, (fv_of hq).1, (fv_of hq).2, (fv_of hr).1, (fv_of hr).2, ?_⟩
  unfold quietB
  rw [hT, hL, Int.toNat_natCast, Int.toNat_natCast, e1, e2]
def quietAt (sh : Nat) (ms : List Mt) (k : Nat) : List Int := List.map (fun i : Nat => (i : Int)) (List.filter (fun i : Nat => quietB sh (uses (gm ms i).1.toNat (gm ms i).2)) (List.range k))
theorem quietAt_yes {sh : Nat} {ms : List Mt} {k : Nat} (h : quietB sh (uses (gm ms k).1.toNat (gm ms k).2) = true) : quietAt sh ms (k + 1) = quietAt sh ms k ++ [(k : Int)] := by
  unfold quietAt
  rw [List.range_succ, List.filter_append, List.map_append]
  simp [h]
theorem quietAt_no {sh : Nat} {ms : List Mt} {k : Nat} (h : quietB sh (uses (gm ms k).1.toNat (gm ms k).2) = false) : quietAt sh ms (k + 1) = quietAt sh ms k := by
  unfold quietAt
  rw [List.range_succ, List.filter_append, List.map_append]
  simp [h]
theorem quietAt_length (sh : Nat) (ms : List Mt) (k : Nat) : (quietAt sh ms k).length ≤ k := by
  unfold quietAt
  rw [List.length_map]
  have := List.length_filter_le (fun i => quietB sh (uses (gm ms i).1.toNat (gm ms i).2)) (List.range k)
  simpa using this
def okMeter (m : Mt) : Bool := validM m.1 m.2 && decide (3 ≤ m.2.length)
def quOk (sh : Nat) (ms : List Mt) : Bool := (decide (ms.length ≤ 256) && fin sh) && (List.range ms.length).all fun k => okMeter (gm ms k)
def quR (sh : Nat) (ms : List Mt) : List Int := if quOk sh ms then quietAt sh ms ms.length else []
theorem quOk_a {sh : Nat} {ms : List Mt} (h : 256 < ms.length) : quOk sh ms = false := by unfold quOk; rw [decide_eq_false (by omega)]; simp
theorem quOk_b {sh : Nat} {ms : List Mt} (h : fin sh = false) : quOk sh ms = false := by unfold quOk; rw [h]; simp
theorem quOk_c {sh : Nat} {ms : List Mt} {k : Nat} (hk : k < ms.length) (h : okMeter (gm ms k) = false) : quOk sh ms = false := by
  unfold quOk
  have : ((List.range ms.length).all fun k => okMeter (gm ms k)) = false := by
    rw [List.all_eq_false]
    exact ⟨k, by simpa using hk, by simpa using h⟩
  rw [this]; simp
theorem quOk_yes {sh : Nat} {ms : List Mt} (hn : ms.length ≤ 256) (hf : fin sh = true) (ha : ∀ k, k < ms.length → okMeter (gm ms k) = true) : quOk sh ms = true := by
  unfold quOk
  rw [hf, decide_eq_true hn]
  simp only [Bool.true_and, List.all_eq_true, List.mem_range]
  exact ha
theorem quR_no {sh : Nat} {ms : List Mt} (h : quOk sh ms = false) : quR sh ms = [] := by unfold quR; rw [h]; rfl
theorem quR_yes {sh : Nat} {ms : List Mt} (h : quOk sh ms = true) : quR sh ms = quietAt sh ms ms.length := by unfold quR; rw [h]; rfl
theorem quR_length (sh : Nat) (ms : List Mt) : (quR sh ms).length ≤ 256 := by
  cases h : quOk sh ms with
  | false => rw [quR_no h]; simp
  | true =>
    rw [quR_yes h]
    have h1 := quietAt_length sh ms ms.length
    unfold quOk at h
    simp only [Bool.and_eq_true, decide_eq_true_eq] at h
    omega
theorem okMeter_a {m : Mt} (h : validM m.1 m.2 = false) : okMeter m = false := by unfold okMeter; rw [h]; rfl
theorem okMeter_b {m : Mt} (h : m.2.length < 3) : okMeter m = false := by unfold okMeter; rw [decide_eq_false (by omega)]; simp
def QuRes (w : World) (sh : Nat) (ms : List Mt) (e : Ending) (w' : World) : Prop := ∃ v, e = .returned (.tuple #[v, .bool (quOk sh ms)]) ∧ OwnI w' w.heap.size v (quR sh ms) ∧ Below w.heap.size w w'
theorem quRes_no {w w' : World} {sh : Nat} {ms : List Mt} (h : quOk sh ms = false) (hb : Below w.heap.size w w') : QuRes w sh ms (.returned (.tuple #[.slice none 0 0, .bool false])) w' :=
  ⟨_, by rw [h], by rw [quR_no h]; exact OwnI.nil _ _, hb⟩
theorem RdI.take {w : World} {A : Option Addr} {xs : List Int} (h : RdI w A xs) (k : Nat) : RdI w A (xs.take k) := by
  refine ⟨Nat.le_trans (List.length_take_le' _ _) h.1, fun hk => ?_⟩
  rw [List.length_take] at hk
  obtain ⟨ad, e, hc⟩ := h.2 (by omega)
  refine ⟨ad, e, fun j hj => ?_⟩
  have hj' := hj
  rw [List.length_take] at hj'
  have := hc j (by omega)
  show _ = some (Value.int .i64 (gi (xs.take k) j))
  rw [gi_eq hj, List.getElem_take, ← gi_eq (by omega)]
  exact this
theorem small_take {xs : List Int} (h : small xs) (k : Nat) : small (xs.take k) := fun j hj => by
  have hj' := hj
  rw [List.length_take] at hj'
  rw [gi_eq hj, List.getElem_take, ← gi_eq (by omega)]
  exact h j (by omega)
theorem summedAt_any (A : Option Addr) (c m : Nat) (xs : List Int) (w : World) (HX : RdI w A xs) (hs : small xs) (hn : xs.length ≤ 256) (hl : xs.length = m) :
    Calls Try.prog 45 #[.slice A m c] w fun e w' => e = .returned (.int .i64 xs.sum) ∧ w = w' := by
  subst hl
  exact summed_any A c xs w HX hs hn
theorem totalAt_any (A : Option Addr) (c m : Nat) (xs : List Int) (w : World) (HX : RdI w A xs) (hs : small xs) (hn : xs.length ≤ 256) (hl : xs.length = m) :
    Calls Try.prog 43 #[.slice A m c] w fun e w' => e = .returned (.int .i64 xs.sum) ∧ w = w' := by
  subst hl
  exact l09Total_any A c xs w HX hs hn
set_option maxHeartbeats 400000 in
theorem isFinite_any (x : Nat) (w : World) :
    Calls Try.prog 50 #[.float .f32 x] w fun e w' => e = .returned (.bool (fin x)) ∧ ∃ n, w' = w.drewN n := by
  go_enter Try.func50, Try.ntmps50
  go_wp2_with (refine wpList_fl rfl _ _ _ _ _ rfl rfl .f32 _ _ rfl rfl ?_; intro r n hr)
  go_ret
  exact ⟨ret_bool (fin_of hr), _, rfl⟩
set_option maxHeartbeats 400000 in
theorem l01Finite_any (x : Nat) (w : World) :
    Calls Try.prog 49 #[.float .f32 x] w fun e w' => e = .returned (.bool (fin x)) ∧ ∃ n, w' = w.drewN n := by
  go_enter Try.func49, Try.ntmps49
  go_wp2_with (refine wpList_fl rfl _ _ _ _ _ rfl rfl .f32 _ _ rfl rfl ?_; intro r n hr)
  go_ret
  exact ⟨ret_bool (fin_of hr), _, rfl⟩
end Go.Proofs.Ytiikjnokoihhgaa
