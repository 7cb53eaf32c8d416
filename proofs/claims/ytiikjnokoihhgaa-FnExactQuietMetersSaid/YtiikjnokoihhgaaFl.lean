/-
  Plain facts on the model's floats: a float operation is told by a plain function 'up to which NaN it is', and the walk takes it as a rule.
-/
import Derived.WalkLawsBesides
import Derived.Deep.Draws
import Derived.Laws.Externs
namespace Go.Fl

/-- The bits stand for a NaN. -/
def isN (k : FloatKind) (b : Nat) : Bool := (k.format.read b).isNaN
/-- The one NaN that stands for all. -/
def qn : FloatKind → Nat
  | .f32 => 0x7fc00000
  | .f64 => 0x7ff8000000000000
/-- The bits up to which NaN they are. -/
def cn (k : FloatKind) (b : Nat) : Nat := if isN k b then qn k else b

theorem isN_qn (k : FloatKind) : isN k (qn k) = true := by cases k <;> decide +kernel
theorem isN_cn (k : FloatKind) (b : Nat) : isN k (cn k b) = isN k b := by
  unfold cn
  split
  · rename_i h; rw [h]; exact isN_qn k
  · rfl
theorem cn_cn (k : FloatKind) (b : Nat) : cn k (cn k b) = cn k b := by
  by_cases h : isN k b = true
  · unfold cn; rw [if_pos h, if_pos (isN_qn k)]
  · rw [show cn k b = b from if_neg h]; exact if_neg h
theorem cn_of_not {k : FloatKind} {b : Nat} (h : isN k b = false) : cn k b = b := by unfold cn; rw [h]; rfl
theorem cn_of_nan {k : FloatKind} {b : Nat} (h : isN k b = true) : cn k b = qn k := by unfold cn; rw [if_pos h]
theorem cn_eq {k : FloatKind} {a b : Nat} (h : cn k a = cn k b) : a = b ∨ (isN k a = true ∧ isN k b = true) := by
  by_cases ha : isN k a = true
  · refine .inr ⟨ha, ?_⟩
    rw [← isN_cn k b, ← h, isN_cn]; exact ha
  · have ha' : isN k a = false := by simpa using ha
    have hb : isN k b = false := by rw [← isN_cn k b, ← h, isN_cn]; exact ha'
    rw [cn_of_not ha', cn_of_not hb] at h
    exact .inl h
theorem isN_of_cn {k : FloatKind} {a b : Nat} (h : cn k a = cn k b) : isN k a = isN k b := by rw [← isN_cn k a, h, isN_cn]

theorem nan_inv {f : Ieee.Datum} (h : f.isNaN = true) : ∃ s t, f = .nan s t := by
  cases f <;> simp [Ieee.Datum.isNaN] at h
  exact ⟨_, _, rfl⟩

/-! words -/
theorem word_mod (f : Ieee.Format) (neg : Bool) {r : Nat} (h : r < f.signWeight) : f.word neg r % f.signWeight = r := by
  unfold Ieee.Format.word
  split
  · rw [Nat.add_mod_left]; exact Nat.mod_eq_of_lt h
  · exact Nat.mod_eq_of_lt h
theorem binade_le (k : FloatKind) : k.format.binade ≤ k.format.infRung := by cases k <;> decide +kernel
theorem read_nan_iff (k : FloatKind) (w : Nat) : (k.format.read w).isNaN = decide (k.format.infRung < w % k.format.signWeight) := by
  have hb := binade_le k
  unfold Ieee.Format.read
  dsimp only
  by_cases h1 : w % k.format.signWeight < k.format.binade
  · rw [if_pos h1]; simp [Ieee.Datum.isNaN]; omega
  · rw [if_neg h1]
    by_cases h2 : w % k.format.signWeight < k.format.infRung
    · rw [if_pos h2]; simp [Ieee.Datum.isNaN]; omega
    · rw [if_neg h2]
      by_cases h3 : w % k.format.signWeight = k.format.infRung
      · rw [if_pos h3]; simp [Ieee.Datum.isNaN]; omega
      · rw [if_neg h3]; simp [Ieee.Datum.isNaN]; omega
theorem isN_word (k : FloatKind) (neg : Bool) {r : Nat} (h : r ≤ k.format.infRung) : isN k (k.format.word neg r) = false := by
  unfold isN
  rw [read_nan_iff, word_mod _ _ (Nat.lt_of_le_of_lt h k.format.infRung_lt)]
  simpa using h
theorem isN_write (k : FloatKind) {d : Ieee.Datum} (h : d.isNaN = false) : isN k (k.format.write d) = false := by
  cases d with
  | number neg mag place =>
    show isN k (k.format.nearest neg mag place) = false
    unfold Ieee.Format.nearest
    dsimp only
    split
    · exact isN_word k _ (Nat.zero_le _)
    · exact isN_word k _ (Nat.min_le_right _ _)
  | infinity neg => exact isN_word k _ (Nat.le_refl _)
  | nan neg t => simp [Ieee.Datum.isNaN] at h
theorem sum_not {x y d : Ieee.Datum} (h : x.sum y = some d) : d.isNaN = false := by
  unfold Ieee.Datum.sum at h
  split at h <;> (try split at h) <;> first | (cases h; rfl) | cases h
theorem product_not {x y d : Ieee.Datum} (h : x.product y = some d) : d.isNaN = false := by
  unfold Ieee.Datum.product at h
  split at h <;> (try split at h) <;> first | (cases h; rfl) | cases h
theorem quotient_not {n : Nat} {x y d : Ieee.Datum} (h : x.quotient n y = some d) : d.isNaN = false := by
  unfold Ieee.Datum.quotient at h
  split at h <;> (try split at h) <;> (try split at h) <;> first | (cases h; rfl) | cases h
theorem root_not {n : Nat} {x d : Ieee.Datum} (h : x.root n = some d) : d.isNaN = false := by
  unfold Ieee.Datum.root at h
  split at h <;> (try split at h) <;> (try split at h) <;> first | (cases h; rfl) | cases h
theorem map_not (k : FloatKind) {o : Option Ieee.Datum} {r : Nat} (ho : ∀ d, o = some d → d.isNaN = false) (h : o.map k.format.write = some r) : isN k r = false := by
  cases o with
  | none => cases h
  | some d => cases h; exact isN_write k (ho d rfl)
theorem floatBits_not {op : BinOp} {k : FloatKind} {x y r : Nat} (h : floatBits op k x y = some r) : isN k r = false := by
  unfold floatBits at h
  split at h
  · exact map_not k (fun _ => sum_not) h
  · exact map_not k (fun _ => sum_not) h
  · exact map_not k (fun _ => product_not) h
  · exact map_not k (fun _ => quotient_not) h
  · cases h

/-! what the tape gives for a NaN's bits -/
theorem isN_cut32 (t x y : Nat) : isN .f32 (Question.cut (.nanBits .f32 x y) t) = true := by
  unfold isN
  rw [read_nan_iff]
  have h1 : FloatKind.f32.format.infRung = 0x7f800000 := by decide +kernel
  have h2 : FloatKind.f32.format.signWeight = 2 ^ 31 := by decide +kernel
  rw [h1, h2, decide_eq_true_iff]
  show _ < ((t % 2) * 2 ^ 31 + 0x7f800000 + 1 + (t / 2) % (2 ^ 23 - 1)) % 2 ^ 31
  have hq : (t / 2) % (2 ^ 23 - 1) < 2 ^ 23 - 1 := Nat.mod_lt _ (by decide)
  generalize (t / 2) % (2 ^ 23 - 1) = q at hq
  generalize t % 2 = p
  rw [show p * 2 ^ 31 + 0x7f800000 + 1 + q = (0x7f800000 + 1 + q) + p * 2 ^ 31 from by omega, Nat.add_mul_mod_self_right, Nat.mod_eq_of_lt (by omega)]
  omega
theorem isN_cut64 (t x y : Nat) : isN .f64 (Question.cut (.nanBits .f64 x y) t) = true := by
  unfold isN
  rw [read_nan_iff]
  have h1 : FloatKind.f64.format.infRung = 0x7ff0000000000000 := by decide +kernel
  have h2 : FloatKind.f64.format.signWeight = 2 ^ 63 := by decide +kernel
  rw [h1, h2, decide_eq_true_iff]
  show _ < ((t % 2) * 2 ^ 63 + 0x7ff0000000000000 + 1 + (t / 2) % (2 ^ 52 - 1)) % 2 ^ 63
  have hq : (t / 2) % (2 ^ 52 - 1) < 2 ^ 52 - 1 := Nat.mod_lt _ (by decide)
  generalize (t / 2) % (2 ^ 52 - 1) = q at hq
  generalize t % 2 = p
  rw [show p * 2 ^ 63 + 0x7ff0000000000000 + 1 + q = (0x7ff0000000000000 + 1 + q) + p * 2 ^ 63 from by omega, Nat.add_mul_mod_self_right, Nat.mod_eq_of_lt (by omega)]
  omega
theorem isN_cut (k : FloatKind) (t x y : Nat) : isN k (Question.cut (.nanBits k x y) t) = true := by
  cases k
  · exact isN_cut32 t x y
  · exact isN_cut64 t x y
theorem isN_cutConv (k : FloatKind) (t x : Nat) : isN k (Question.cut (.nanConv k x) t) = true := by
  cases k
  · exact isN_cut32 t x x
  · exact isN_cut64 t x x

/-! arithmetic -/
/-- What an operation gives, up to which NaN it is. -/
def fb (op : BinOp) (k : FloatKind) (x y : Nat) : Nat := (floatBits op k x y).getD (qn k)
/-- What it gives in a world. -/
def fv (w : World) (op : BinOp) (k : FloatKind) (x y : Nat) : Nat :=
  match floatBits op k x y with
  | some r => r
  | none => (Question.nanBits k x y).cut (w.tape w.drawn (.nanBits k x y))
/-- How often it asks the tape. -/
def fd (op : BinOp) (k : FloatKind) (x y : Nat) : Nat := if (floatBits op k x y).isSome then 0 else 1

theorem cn_fv (w : World) (op : BinOp) (k : FloatKind) (x y : Nat) : cn k (fv w op k x y) = fb op k x y := by
  unfold fv fb
  cases h : floatBits op k x y with
  | some r => exact cn_of_not (floatBits_not h)
  | none => exact cn_of_nan (isN_cut k _ _ _)
theorem cn_fb (op : BinOp) (k : FloatKind) (x y : Nat) : cn k (fb op k x y) = fb op k x y := by
  unfold fb
  cases h : floatBits op k x y with
  | some r => exact cn_of_not (floatBits_not h)
  | none => exact cn_of_nan (isN_qn k)

section
variable {P : Program} (w : World) (t : TypeId) (k : FloatKind) (x y : Nat)
theorem run_arith {op : BinOp} (h4 : op = .add ∨ op = .sub ∨ op = .mul ∨ op = .quo) : (binOp op t (.float k x) (.float k y)).run P w = .ok (.float k (fv w op k x y)) (w.drewN (fd op k x y)) := by
  cases h : floatBits op k x y with
  | some r =>
    rw [run_float_arith w op t k x y r h]
    unfold fv fd
    rw [h]
    rfl
  | none =>
    have hv : fv w op k x y = (Question.nanBits k x y).cut (w.tape w.drawn (.nanBits k x y)) := by unfold fv; rw [h]
    have hd : fd op k x y = 1 := by unfold fd; rw [h]; rfl
    rw [hv, hd]
    unfold floatBits at h
    rcases h4 with rfl | rfl | rfl | rfl <;> simp only at h <;> simp [binOp, Op.floatArith, h, Question.forced] <;> rfl
@[go_sem] theorem run_add : (binOp .add t (.float k x) (.float k y)).run P w = .ok (.float k (fv w .add k x y)) (w.drewN (fd .add k x y)) := run_arith w t k x y (by simp)
@[go_sem] theorem run_sub : (binOp .sub t (.float k x) (.float k y)).run P w = .ok (.float k (fv w .sub k x y)) (w.drewN (fd .sub k x y)) := run_arith w t k x y (by simp)
@[go_sem] theorem run_mul : (binOp .mul t (.float k x) (.float k y)).run P w = .ok (.float k (fv w .mul k x y)) (w.drewN (fd .mul k x y)) := run_arith w t k x y (by simp)
@[go_sem] theorem run_quo : (binOp .quo t (.float k x) (.float k y)).run P w = .ok (.float k (fv w .quo k x y)) (w.drewN (fd .quo k x y)) := run_arith w t k x y (by simp)
@[go_sem] theorem run_same (src dst : TypeId) (b : Nat) (hs : (P.underlying src).isSome = true) (hd : P.underlying dst = some (.float k)) : (convert src dst (.float k b)).run P w = .ok (.float k b) w := by
  obtain ⟨u, hs'⟩ := Option.isSome_iff_exists.1 hs
  cases u <;> simp [convert, run_underlying hs', run_underlying hd, Conv.floatToFloat]
end

@[go_sem] theorem run_store_float (P : Program) (w : World) (a : Addr) (m : Mode) (k : FloatKind) (b : Nat) : (store a (.float k b) m).run P w = stored P w a (.float k b) m := run_store P w a _ m rfl
@[go_sem] theorem run_store_complex (P : Program) (w : World) (a : Addr) (m : Mode) (k : FloatKind) (x y : Nat) : (store a (.complex k x y) m).run P w = stored P w a (.complex k x y) m := run_store P w a _ m rfl

/-! an operation sees no NaN's bits -/
theorem read_cn (k : FloatKind) (x : Nat) : k.format.read (cn k x) = k.format.read x ∨ ((k.format.read (cn k x)).isNaN = true ∧ (k.format.read x).isNaN = true) := by
  by_cases h : isN k x = true
  · right
    refine ⟨?_, h⟩
    rw [cn_of_nan h]; exact isN_qn k
  · left
    rw [cn_of_not (by simpa using h)]
theorem sum_nan_left {x y : Ieee.Datum} (h : x.isNaN = true) : x.sum y = none := by obtain ⟨s, t, rfl⟩ := nan_inv h; rfl
theorem sum_nan_right {x y : Ieee.Datum} (h : y.isNaN = true) : x.sum y = none := by obtain ⟨s, t, rfl⟩ := nan_inv h; cases x <;> rfl
theorem product_nan_left {x y : Ieee.Datum} (h : x.isNaN = true) : x.product y = none := by obtain ⟨s, t, rfl⟩ := nan_inv h; rfl
theorem product_nan_right {x y : Ieee.Datum} (h : y.isNaN = true) : x.product y = none := by obtain ⟨s, t, rfl⟩ := nan_inv h; cases x <;> rfl
theorem quotient_nan_left {n : Nat} {x y : Ieee.Datum} (h : x.isNaN = true) : x.quotient n y = none := by obtain ⟨s, t, rfl⟩ := nan_inv h; rfl
theorem quotient_nan_right {n : Nat} {x y : Ieee.Datum} (h : y.isNaN = true) : x.quotient n y = none := by obtain ⟨s, t, rfl⟩ := nan_inv h; cases x <;> rfl
theorem opposite_nan {x : Ieee.Datum} (h : x.isNaN = true) : x.opposite.isNaN = true := by obtain ⟨s, t, rfl⟩ := nan_inv h; rfl
theorem order_nan_left {x y : Ieee.Datum} (h : x.isNaN = true) : x.order y = none := by obtain ⟨s, t, rfl⟩ := nan_inv h; rfl
theorem order_nan_right {x y : Ieee.Datum} (h : y.isNaN = true) : x.order y = none := by obtain ⟨s, t, rfl⟩ := nan_inv h; cases x <;> rfl

theorem floatBits_cn_left (op : BinOp) (k : FloatKind) (x y : Nat) : floatBits op k (cn k x) y = floatBits op k x y := by
  rcases read_cn k x with h | ⟨h1, h2⟩
  · unfold floatBits Ieee.Format.add Ieee.Format.sub Ieee.Format.mul Ieee.Format.div; rw [h]
  · unfold floatBits Ieee.Format.add Ieee.Format.sub Ieee.Format.mul Ieee.Format.div
    split <;> simp [sum_nan_left h1, sum_nan_left h2, product_nan_left h1, product_nan_left h2, quotient_nan_left h1, quotient_nan_left h2]
theorem floatBits_cn_right (op : BinOp) (k : FloatKind) (x y : Nat) : floatBits op k x (cn k y) = floatBits op k x y := by
  rcases read_cn k y with h | ⟨h1, h2⟩
  · unfold floatBits Ieee.Format.add Ieee.Format.sub Ieee.Format.mul Ieee.Format.div; rw [h]
  · unfold floatBits Ieee.Format.add Ieee.Format.sub Ieee.Format.mul Ieee.Format.div
    split <;> simp [sum_nan_right h1, sum_nan_right h2, sum_nan_right (opposite_nan h1), sum_nan_right (opposite_nan h2), product_nan_right h1, product_nan_right h2, quotient_nan_right h1, quotient_nan_right h2]
theorem fb_cn_left (op : BinOp) (k : FloatKind) (x y : Nat) : fb op k (cn k x) y = fb op k x y := by unfold fb; rw [floatBits_cn_left]
theorem fb_cn_right (op : BinOp) (k : FloatKind) (x y : Nat) : fb op k x (cn k y) = fb op k x y := by unfold fb; rw [floatBits_cn_right]
theorem fb_congr {op : BinOp} {k : FloatKind} {x x' y y' : Nat} (hx : cn k x = cn k x') (hy : cn k y = cn k y') : fb op k x y = fb op k x' y' := by
  rw [← fb_cn_left, hx, fb_cn_left, ← fb_cn_right, hy, fb_cn_right]
theorem order_cn_left (k : FloatKind) (x y : Nat) : k.format.order (cn k x) y = k.format.order x y := by
  unfold Ieee.Format.order
  rcases read_cn k x with h | ⟨h1, h2⟩
  · rw [h]
  · rw [order_nan_left h1, order_nan_left h2]
theorem order_cn_right (k : FloatKind) (x y : Nat) : k.format.order x (cn k y) = k.format.order x y := by
  unfold Ieee.Format.order
  rcases read_cn k y with h | ⟨h1, h2⟩
  · rw [h]
  · rw [order_nan_right h1, order_nan_right h2]
theorem order_congr {k : FloatKind} {x x' y y' : Nat} (hx : cn k x = cn k x') (hy : cn k y = cn k y') : k.format.order x y = k.format.order x' y' := by
  rw [← order_cn_left, hx, order_cn_left, ← order_cn_right, hy, order_cn_right]
/-- A test over what an operation gives. -/
@[go_sem] theorem order_fv_left (w : World) (op : BinOp) (k : FloatKind) (x y z : Nat) : k.format.order (fv w op k x y) z = k.format.order (fb op k x y) z := by
  rw [← order_cn_left, cn_fv]
@[go_sem] theorem order_fv_right (w : World) (op : BinOp) (k : FloatKind) (x y z : Nat) : k.format.order z (fv w op k x y) = k.format.order z (fb op k x y) := by
  rw [← order_cn_right, cn_fv]
@[go_sem] theorem fb_fv_left (w : World) (op op' : BinOp) (k : FloatKind) (x y z : Nat) : fb op' k (fv w op k x y) z = fb op' k (fb op k x y) z := by
  rw [← fb_cn_left, cn_fv]
@[go_sem] theorem fb_fv_right (w : World) (op op' : BinOp) (k : FloatKind) (x y z : Nat) : fb op' k z (fv w op k x y) = fb op' k z (fb op k x y) := by
  rw [← fb_cn_right, cn_fv]
theorem order_self (k : FloatKind) {x : Nat} (h : isN k x = false) : k.format.order x x = some .eq := by
  unfold Ieee.Format.order
  unfold isN at h
  cases hx : k.format.read x with
  | number s m i => simp [Ieee.Datum.order]
  | infinity s => simp [Ieee.Datum.order]
  | nan s t => rw [hx] at h; simp [Ieee.Datum.isNaN] at h
theorem order_nan {k : FloatKind} {x : Nat} (y : Nat) (h : isN k x = true) : k.format.order x y = none := by
  unfold Ieee.Format.order; exact order_nan_left h
theorem order_nan' {k : FloatKind} {y : Nat} (x : Nat) (h : isN k y = true) : k.format.order x y = none := by
  unfold Ieee.Format.order; exact order_nan_right h
theorem order_self_eq (k : FloatKind) (x : Nat) : (k.format.order x x == some .eq) = !isN k x := by
  cases h : isN k x with
  | true => rw [order_nan x h]; rfl
  | false => rw [order_self k h]; rfl
theorem order_self_ne (k : FloatKind) (x : Nat) : (k.format.order x x != some .eq) = isN k x := by
  cases h : isN k x with
  | true => rw [order_nan x h]; rfl
  | false => rw [order_self k h]; rfl
theorem order_some {k : FloatKind} {x y : Nat} (hx : isN k x = false) (hy : isN k y = false) : ∃ o, k.format.order x y = some o := by
  unfold Ieee.Format.order
  unfold isN at hx hy
  cases h : k.format.read x with
  | nan s t => rw [h] at hx; simp [Ieee.Datum.isNaN] at hx
  | number s m i =>
    cases h' : k.format.read y with
    | nan s t => rw [h'] at hy; simp [Ieee.Datum.isNaN] at hy
    | number s m i => exact ⟨_, rfl⟩
    | infinity s => exact ⟨_, rfl⟩
  | infinity s =>
    cases h' : k.format.read y with
    | nan s t => rw [h'] at hy; simp [Ieee.Datum.isNaN] at hy
    | number s m i => exact ⟨_, rfl⟩
    | infinity s => exact ⟨_, rfl⟩

/-! a number that is not too great is no infinity -/
theorem cut_zero (neg : Bool) (n : Nat) : Ieee.Toward.even.cut neg n 0 = n := by
  unfold Ieee.Toward.cut
  dsimp only
  simp [Nat.mod_one]
theorem read_word (k : FloatKind) (neg : Bool) {r : Nat} (h : r < k.format.infRung) : (k.format.read (k.format.word neg r)).isInfinity = false := by
  have hw := word_mod k.format neg (Nat.lt_trans h k.format.infRung_lt)
  unfold Ieee.Format.read
  dsimp only
  rw [hw]
  split
  · rfl
  · rfl

/-- the last place of a float32, and how great it is -/
theorem read32_bound {b : Nat} {s : Bool} {m : Nat} {e : Int} (h : FloatKind.f32.format.read b = .number s m e) : m < 2 ^ 24 ∧ -149 ≤ e ∧ e ≤ 104 := by
  have h1 : FloatKind.f32.format.binade = 2 ^ 23 := by decide +kernel
  have h2 : FloatKind.f32.format.infRung = 255 * 2 ^ 23 := by decide +kernel
  have h3 : FloatKind.f32.format.leastPlace = -149 := by decide +kernel
  unfold Ieee.Format.read at h
  dsimp only at h
  rw [h1, h2, h3] at h
  generalize b % FloatKind.f32.format.signWeight = r at h
  split at h
  · injection h with _ h4 h5
    omega
  · split at h
    · injection h with _ h4 h5
      omega
    · split at h <;> cases h
theorem wide_not_inf {s : Bool} {m : Nat} {e : Int} (hm : m < 2 ^ 24) (h1 : -149 ≤ e) (h2 : e ≤ 104) : (FloatKind.f64.format.read (FloatKind.f64.format.write (.number s m e))).isInfinity = false := by
  have g1 : FloatKind.f64.format.binade = 2 ^ 52 := by decide +kernel
  have g2 : FloatKind.f64.format.infRung = 2047 * 2 ^ 52 := by decide +kernel
  have g3 : FloatKind.f64.format.leastPlace = -1074 := by decide +kernel
  have g4 : FloatKind.f64.format.fractionBits = 52 := by decide +kernel
  show (FloatKind.f64.format.read (FloatKind.f64.format.nearest s m e)).isInfinity = false
  unfold Ieee.Format.nearest
  dsimp only
  split
  · exact read_word .f64 _ (by rw [g2]; decide)
  · rename_i hz
    rw [g3, g4, g1]
    have hl : m.log2 < 24 := (Nat.log2_lt hz).2 hm
    have hlast : max (e + (m.log2 : Int) - (52 : Nat)) (-1074) = e + (m.log2 : Int) - 52 := by omega
    rw [hlast]
    have hd : (e + (m.log2 : Int) - 52 - e).toNat = 0 := by omega
    rw [hd, cut_zero]
    have hs : (e - (e + (m.log2 : Int) - 52)).toNat = 52 - m.log2 := by omega
    rw [hs]
    refine read_word .f64 _ (Nat.lt_of_le_of_lt (Nat.min_le_left _ _) ?_)
    rw [g2, Nat.shiftLeft_eq]
    have hm2 : m < 2 ^ (m.log2 + 1) := Nat.lt_log2_self
    have hk : m * 2 ^ (52 - m.log2) < 2 ^ 53 := by
      calc m * 2 ^ (52 - m.log2) < 2 ^ (m.log2 + 1) * 2 ^ (52 - m.log2) := Nat.mul_lt_mul_of_pos_right hm2 (Nat.two_pow_pos _)
        _ = 2 ^ 53 := by rw [← Nat.pow_add]; congr 1; omega
    have ht : (e + (m.log2 : Int) - 52 - -1074).toNat ≤ 1150 := by omega
    have := Nat.mul_le_mul_right (2 ^ 52) ht
    omega

/-! float64(x) of a float32 -/
def wb (b : Nat) : Nat := if isN .f32 b then qn .f64 else FloatKind.f64.encode (FloatKind.f32.decode b)
def wv (w : World) (b : Nat) : Nat := if isN .f32 b then (Question.nanConv .f64 b).cut (w.tape w.drawn (.nanConv .f64 b)) else FloatKind.f64.encode (FloatKind.f32.decode b)
def wd (b : Nat) : Nat := if isN .f32 b then 1 else 0
theorem isN_encode {b : Nat} (h : isN .f32 b = false) : isN .f64 (FloatKind.f64.encode (FloatKind.f32.decode b)) = false := isN_write .f64 h
theorem cn_wv (w : World) (b : Nat) : cn .f64 (wv w b) = wb b := by
  unfold wv wb
  by_cases h : isN .f32 b = true
  · rw [if_pos h, if_pos h]; exact cn_of_nan (isN_cutConv .f64 _ _)
  · rw [if_neg h, if_neg h]; exact cn_of_not (isN_encode (by simpa using h))
theorem wb_cn (b : Nat) : wb (cn .f32 b) = wb b := by
  unfold wb
  rw [isN_cn]
  by_cases h : isN .f32 b = true
  · rw [if_pos h, if_pos h]
  · rw [if_neg h, if_neg h, cn_of_not (by simpa using h)]
theorem wb_congr {a b : Nat} (h : cn .f32 a = cn .f32 b) : wb a = wb b := by rw [← wb_cn a, h, wb_cn]
@[go_sem] theorem wv_num (w : World) {b : Nat} (h : isN .f32 b = false) : wv w b = wb b := by unfold wv wb; rw [h]; rfl
@[go_sem] theorem wd_num {b : Nat} (h : isN .f32 b = false) : wd b = 0 := by unfold wd; rw [h]; rfl
@[go_sem] theorem drewN_nought (w : World) : w.drewN 0 = w := rfl
@[go_sem] theorem run_widen {P : Program} (w : World) (src dst : TypeId) (b : Nat) (hs : (P.underlying src).isSome = true) (hd : P.underlying dst = some (.float .f64)) :
    (convert src dst (.float .f32 b)).run P w = .ok (.float .f64 (wv w b)) (w.drewN (wd b)) := by
  obtain ⟨u, hs'⟩ := Option.isSome_iff_exists.1 hs
  have hc : (Conv.floatToFloat .f32 b .f64).run P w = .ok (.float .f64 (wv w b)) (w.drewN (wd b)) := by
    unfold wv wd
    cases h : FloatKind.f32.format.read b with
    | nan s t =>
      have hn : isN .f32 b = true := by unfold isN; rw [h]; rfl
      rw [hn]
      simp [Conv.floatToFloat, FloatKind.decode, h, Question.forced]
      rfl
    | infinity s =>
      have hn : isN .f32 b = false := by unfold isN; rw [h]; rfl
      rw [hn]
      simp [Conv.floatToFloat, FloatKind.decode, h]
      rfl
    | number s m e =>
      have hn : isN .f32 b = false := by unfold isN; rw [h]; rfl
      obtain ⟨b1, b2, b3⟩ := read32_bound h
      have hi := wide_not_inf (s := s) b1 b2 b3
      rw [hn]
      simp [Conv.floatToFloat, FloatKind.decode, FloatKind.encode, h, hi]
      rfl
  cases u <;> simp [convert, run_underlying hs', run_underlying hd, hc]
@[go_sem] theorem order_wv_left (w : World) (x z : Nat) : FloatKind.f64.format.order (wv w x) z = FloatKind.f64.format.order (wb x) z := by
  rw [← order_cn_left, cn_wv]
@[go_sem] theorem order_wv_right (w : World) (x z : Nat) : FloatKind.f64.format.order z (wv w x) = FloatKind.f64.format.order z (wb x) := by
  rw [← order_cn_right, cn_wv]
@[go_sem] theorem fb_wv_left (w : World) (op : BinOp) (x z : Nat) : fb op .f64 (wv w x) z = fb op .f64 (wb x) z := by
  rw [← fb_cn_left, cn_wv]
@[go_sem] theorem fb_wv_right (w : World) (op : BinOp) (x z : Nat) : fb op .f64 z (wv w x) = fb op .f64 z (wb x) := by
  rw [← fb_cn_right, cn_wv]

/-! tests, up to which NaN it is -/
def cf (k : FloatKind) (a b : Nat) : Option Ordering := k.format.order (cn k a) (cn k b)
theorem cf_eq (k : FloatKind) (a b : Nat) : cf k a b = k.format.order a b := by unfold cf; rw [order_cn_left, order_cn_right]
theorem cf_congr {k : FloatKind} {a a' b b' : Nat} (h : cn k a = cn k a') (h' : cn k b = cn k b') : cf k a b = cf k a' b' := by unfold cf; rw [h, h']
theorem cf_cn_left (k : FloatKind) (a b : Nat) : cf k (cn k a) b = cf k a b := cf_congr (cn_cn k a) rfl
theorem cf_cn_right (k : FloatKind) (a b : Nat) : cf k a (cn k b) = cf k a b := cf_congr rfl (cn_cn k b)
@[go_sem high] theorem cmp_eql (t : TypeId) (k : FloatKind) (a b : Nat) : binOp .eql t (.float k a) (.float k b) = pure (.bool (cf k a b == some .eq)) := by rw [cf_eq]; exact binOp_float_cmp_eql t k a b
@[go_sem high] theorem cmp_neq (t : TypeId) (k : FloatKind) (a b : Nat) : binOp .neq t (.float k a) (.float k b) = pure (.bool (cf k a b != some .eq)) := by rw [cf_eq]; exact binOp_float_cmp_neq t k a b
@[go_sem high] theorem cmp_lss (t : TypeId) (k : FloatKind) (a b : Nat) : binOp .lss t (.float k a) (.float k b) = pure (.bool (cf k a b == some .lt)) := by rw [cf_eq]; exact binOp_float_cmp_lss t k a b
@[go_sem high] theorem cmp_leq (t : TypeId) (k : FloatKind) (a b : Nat) : binOp .leq t (.float k a) (.float k b) = pure (.bool (cf k a b == some .lt || cf k a b == some .eq)) := by rw [cf_eq]; exact binOp_float_cmp_leq t k a b
@[go_sem high] theorem cmp_gtr (t : TypeId) (k : FloatKind) (a b : Nat) : binOp .gtr t (.float k a) (.float k b) = pure (.bool (cf k a b == some .gt)) := by rw [cf_eq]; exact binOp_float_cmp_gtr t k a b
@[go_sem high] theorem cmp_geq (t : TypeId) (k : FloatKind) (a b : Nat) : binOp .geq t (.float k a) (.float k b) = pure (.bool (cf k a b == some .gt || cf k a b == some .eq)) := by rw [cf_eq]; exact binOp_float_cmp_geq t k a b

/-! the walk's laws with what comes of an operation under a name -/
def isArith : BinOp → Bool
  | .add | .sub | .mul | .quo => true
  | _ => false
section
variable {P : Program} {ops : Array Oper} {rest : List Oper} {o : Oper} {a : Act} {w : World} {Q : Exit → Act → World → Prop}
theorem wpList_fl (hg : o.guard = none) (op : BinOp) (t t' : TypeId) (X Y : Operand) (ho : o.op = .binOp op t X Y t') (h4 : isArith op = true) (k : FloatKind) (x y : Nat)
    (hx : a.eval X = .float k x) (hy : a.eval Y = .float k y)
    (h : ∀ r n, cn k r = fb op k (cn k x) (cn k y) → wpList P ops Q rest (a.put o.dst (.float k r)) (w.drewN n)) : wpList P ops Q (o :: rest) a w := by
  refine wpList_plain hg fun K hK => ?_
  have h4' : op = .add ∨ op = .sub ∨ op = .mul ∨ op = .quo := by cases op <;> simp [isArith] at h4 <;> simp
  have hr := run_arith (P := P) w t k x y h4'
  have := h (fv w op k x y) (fd op k x y) (by rw [cn_fv, fb_cn_left, fb_cn_right])
  have hgd : (eqGuard op t X Y (.float k x) (.float k y)).run P w = .ok () w := by rcases h4' with rfl | rfl | rfl | rfl <;> rfl
  unfold Oper.wp
  simp only [execOp, ho, hx, hy, Sem.run_bind, hgd, hr, Result.andThen_ok, Sem.run_pure]
  exact hK _ _ this
theorem wpList_wide (hg : o.guard = none) (t t' : TypeId) (X : Operand) (ho : o.op = .convert t t' X) (hs : P.underlying t = some (.float .f32)) (hd : P.underlying t' = some (.float .f64)) (x : Nat)
    (hx : a.eval X = .float .f32 x)
    (h : ∀ r n, cn .f64 r = wb (cn .f32 x) → wpList P ops Q rest (a.put o.dst (.float .f64 r)) (w.drewN n)) : wpList P ops Q (o :: rest) a w := by
  refine wpList_plain hg fun K hK => ?_
  have hr := run_widen (P := P) w t t' x (by rw [hs]; rfl) hd
  have := h (wv w x) (wd x) (by rw [cn_wv, wb_cn])
  unfold Oper.wp
  simp only [execOp, ho, hx, Sem.run_bind, hr, Result.andThen_ok, Sem.run_pure]
  exact hK _ _ this
end

/-! an order turned round -/
theorem order_swap (x y : Ieee.Datum) : y.order x = (x.order y).map Ordering.swap := by
  cases x with
  | nan s t => cases y <;> rfl
  | infinity s =>
    cases y with
    | nan t u => rfl
    | infinity t => cases s <;> cases t <;> rfl
    | number t n j => cases s <;> rfl
  | number s m i =>
    cases y with
    | nan t u => rfl
    | infinity t => cases t <;> rfl
    | number t n j =>
      simp only [Ieee.Datum.order, Option.map_some, Option.some.injEq]
      rw [Int.min_comm j i]
      exact Std.OrientedCmp.eq_swap
theorem cf_swap (k : FloatKind) (a b : Nat) : cf k b a = (cf k a b).map Ordering.swap := by
  unfold cf Ieee.Format.order
  exact order_swap _ _
theorem cf_gt_lt (k : FloatKind) (a b : Nat) : (cf k a b == some .gt) = (cf k b a == some .lt) := by
  rw [cf_swap k a b]
  cases cf k a b with
  | none => rfl
  | some o => cases o <;> rfl
end Go.Fl
