/-
  Words for the walks: rows of cells that are read, in whatever world; small facts on worlds.
-/
import Derived.Test.YtiikjnokoihhgaaFl
import Derived.WalkKit
import Derived.WalkSpells
import Derived.WalkLawsBesides
import Derived.BigQuiet
import Derived.Lib.Hide
import Derived.Deep.OwnRows
import Derived.Deep.RegionWith
namespace Go.Lb
open Go.RowKit Go.Fl

/-! worlds -/
@[go_sem] theorem setCell_twice (w : World) (a : Addr) (u v : Value) : (w.setCell a u).setCell a v = w.setCell a v := by
  have h : ∀ o : Obj, (match (match o with | .cells c elem frozen => Obj.cells (if a.spot.isSome then c else c.setIfInBounds a.off u) elem frozen | o => o) with
      | .cells c elem frozen => Obj.cells (if a.spot.isSome then c else c.setIfInBounds a.off v) elem frozen | o => o) =
      (match o with | .cells c elem frozen => Obj.cells (if a.spot.isSome then c else c.setIfInBounds a.off v) elem frozen | o => o) := by
    intro o
    cases o <;> simp
    split <;> simp
  unfold World.setCell
  simp only [World.mk.injEq, and_true]
  apply Array.ext_getElem?
  intro i
  simp only [Array.getElem?_modify]
  by_cases hi : a.block = i
  · simp only [hi, if_true]
    cases w.heap[i]? with
    | none => rfl
    | some o => exact congrArg some (h o)
  · simp [hi]
@[go_sem] theorem setCell_drewN (w : World) (n : Nat) (a : Addr) (v : Value) : (w.drewN n).setCell a v = (w.setCell a v).drewN n := rfl
@[go_sem] theorem alloc_drewN (w : World) (n : Nat) (o : Obj) : (w.drewN n).alloc o = (w.alloc o).drewN n := rfl

theorem below_drewN {B : Nat} {a w : World} (h : Below B a w) (n : Nat) : Below B a (w.drewN n) := ⟨h.os, h.tape, h.output, h.size, h.block⟩
theorem bcell {W w1 : World} (hb : Below W.heap.size W w1) : (∀ b o, b < W.heap.size → w1.cell? ⟨b, o, none⟩ = W.cell? ⟨b, o, none⟩) ∧ (∀ b o, b < W.heap.size → w1.frozen? ⟨b, o, none⟩ = W.frozen? ⟨b, o, none⟩) :=
  ⟨fun b o h => hb.cell (p := ⟨b, o, none⟩) h, fun b o h => hb.frozen (p := ⟨b, o, none⟩) h⟩
theorem bcell0 {W w1 : World} (hb : Below W.heap.size W w1) (k : Nat) (hk : k < W.heap.size) : (∀ o, w1.cell? ⟨k, o, none⟩ = W.cell? ⟨k, o, none⟩) ∧ (∀ o, w1.frozen? ⟨k, o, none⟩ = W.frozen? ⟨k, o, none⟩) ∧ k < w1.heap.size :=
  ⟨fun o => hb.cell (p := ⟨k, o, none⟩) hk, fun o => hb.frozen (p := ⟨k, o, none⟩) hk, Nat.lt_of_lt_of_le hk hb.size⟩
/-- of the block that has been made last -/
theorem bcellNew {W w1 : World} {o : Obj} (hb : Below ((W.alloc o).drew).heap.size ((W.alloc o).drew) w1) : (∀ i, w1.cell? ⟨W.heap.size, i, none⟩ = (W.alloc o).cell? ⟨W.heap.size, i, none⟩) ∧ (∀ i, w1.frozen? ⟨W.heap.size, i, none⟩ = (W.alloc o).frozen? ⟨W.heap.size, i, none⟩) ∧ W.heap.size < w1.heap.size :=
  bcell0 hb W.heap.size (by simp)
theorem below_lt {W w1 : World} (hb : Below W.heap.size W w1) : ∀ k, k < W.heap.size → k < w1.heap.size := fun _ h => Nat.lt_of_lt_of_le h hb.size
theorem cell_keep {w w1 : World} (h : Below w.heap.size w w1) {a : Addr} {v : Value} (hc : w.cell? a = some v) : w1.cell? a = some v := (h.cell (World.block_lt_of_cell? w a hc)).trans hc
theorem below_then {w w1 w2 : World} (h : Below w.heap.size w w1) (k : Below w1.heap.size w1 w2) : Below w.heap.size w w2 :=
  h.trans ⟨k.os, k.tape, k.output, k.size, fun i hi => k.block i (Nat.lt_of_lt_of_le hi h.size)⟩

theorem below_alloc {w W : World} (h : Below w.heap.size w W) (o : Obj) : Below w.heap.size w (W.alloc o) := h.alloc h.size o
/-- the world under a name, of which these facts are kept -/
theorem wp_abs {P : Program} {c : Code} {Q : Exit → Act → World → Prop} {a : Act} {w : World} (R : World → Prop) (hw : R w) (h : ∀ W, R W → c.wp P Q a W) : c.wp P Q a w := h w hw

/-- a callee that only draws, met in a world that has been drawn from -/
theorem quiet_add {P : Program} {f : FuncId} {args : Array Value} {w : World} {a n : Nat} {v : Value}
    (h : Calls P f args (w.drewN (a + n)) fun e w' => e = .returned v ∧ ∃ m, w' = (w.drewN (a + n)).drewN m) :
    Calls P f args (w.drewN (a + n)) fun e w'' => e = .returned v ∧ ∃ m, w'' = w.drewN (a + m) :=
  h.mono fun _ _ ⟨he, m, hm⟩ => ⟨he, n + m, by rw [hm, World.drewN_drewN, Nat.add_assoc]⟩

/-! a row that is read: n elements of sz cells, cell j being cs j -/
def Rd (w : World) (A : Option Addr) (m : Nat) (cs : Nat → Value) : Prop :=
  0 < m → ∃ ad, A = some ad ∧ ∀ j, j < m → w.cell? (ad.add j) = some (cs j)
theorem Rd.below {w w1 : World} {A : Option Addr} {m : Nat} {cs : Nat → Value} (h : Rd w A m cs) (hb : Below w.heap.size w w1) : Rd w1 A m cs := fun hm => by
  obtain ⟨ad, e, hc⟩ := h hm
  exact ⟨ad, e, fun j hj => cell_keep hb (hc j hj)⟩
theorem Rd.drewN {w : World} {A : Option Addr} {m : Nat} {cs : Nat → Value} (h : Rd w A m cs) (n : Nat) : Rd (w.drewN n) A m cs := h
/-- the element at a place, closed to simp -/
def ge (xs : List Nat) (k : Nat) : Nat := xs.getD k 0
theorem ge_eq {xs : List Nat} {k : Nat} (h : k < xs.length) : ge xs k = xs[k] := by simp [ge, List.getElem?_eq_getElem h]
/-- a row of float32s -/
def RdF (w : World) (A : Option Addr) (xs : List Nat) : Prop := xs.length ≤ 9223372036854775807 ∧ Rd w A xs.length fun j => .float .f32 (ge xs j)
theorem RdF.at_ {w : World} {A : Option Addr} {xs : List Nat} (h : RdF w A xs) {i : Nat} (hi : i < xs.length) : ∃ ad, A = some ad ∧ w.cell? (ad.add i) = some (.float .f32 (ge xs i)) := by
  obtain ⟨ad, e, hc⟩ := h.2 (by omega)
  exact ⟨ad, e, hc i hi⟩
theorem RdF.below {w w1 : World} {A : Option Addr} {xs : List Nat} (h : RdF w A xs) (hb : Below w.heap.size w w1) : RdF w1 A xs := ⟨h.1, h.2.below hb⟩

/-- a literal slice of two, of one, of three float32s -/
theorem rdF_one {w : World} {a : Addr} {x : Nat} (h0 : w.cell? a = some (.float .f32 x)) : RdF w (some a) [x] := by
  refine ⟨by simp, fun _ => ⟨a, rfl, fun j hj => ?_⟩⟩
  obtain rfl : j = 0 := by simpa using hj
  rw [Addr.add_zero']; exact h0
theorem rdF_two {w : World} {b : Nat} {x y : Nat} (h0 : w.cell? ⟨b, 0, none⟩ = some (.float .f32 x)) (h1 : w.cell? ⟨b, 1, none⟩ = some (.float .f32 y)) : RdF w (some ⟨b, 0, none⟩) [x, y] := by
  refine ⟨by simp, fun _ => ⟨_, rfl, fun j hj => ?_⟩⟩
  have hj : j < 2 := hj
  match j, hj with
  | 0, _ => exact h0
  | 1, _ => exact h1

/-! searching a list -/
def idx (p : Nat → Bool) (xs : List Nat) : Int := match xs.findIdx? p with | some i => i | none => -1
theorem ret_int {k : IntKind} {a b : Int} (h : a = b) : Ending.returned (.int k a) = .returned (.int k b) := by rw [h]
theorem ret_bool {a b : Bool} (h : a = b) : Ending.returned (.bool a) = .returned (.bool b) := by rw [h]
theorem idx_found {p : Nat → Bool} {xs : List Nat} {k : Nat} (hk : k < xs.length) (hno : ∀ j, j < k → p (ge xs j) = false) (hy : p (ge xs k) = true) : idx p xs = k := by
  unfold idx
  have : xs.findIdx? p = some k := by
    rw [List.findIdx?_eq_some_iff_getElem]
    refine ⟨hk, ?_, fun j hj => ?_⟩
    · rw [ge_eq hk] at hy; exact hy
    · have := hno j hj
      rw [ge_eq (Nat.lt_trans hj hk)] at this; simpa using this
  rw [this]
theorem idx_none {p : Nat → Bool} {xs : List Nat} (hno : ∀ j, j < xs.length → p (ge xs j) = false) : idx p xs = -1 := by
  unfold idx
  have : xs.findIdx? p = none := by
    rw [List.findIdx?_eq_none_iff]
    intro x hx
    obtain ⟨j, hj, rfl⟩ := List.mem_iff_getElem.1 hx
    have := hno j hj
    rw [ge_eq hj] at this; exact this
  rw [this]
theorem idx_ge (p : Nat → Bool) (xs : List Nat) : decide (0 ≤ idx p xs) = xs.any p := by
  unfold idx
  cases h : xs.findIdx? p with
  | none =>
    rw [List.findIdx?_eq_none_iff] at h
    simp
    intro x hx; have := h x hx; simpa using this
  | some i =>
    rw [List.findIdx?_eq_some_iff_getElem] at h
    obtain ⟨hi, hy, _⟩ := h
    simp
    exact ⟨_, List.getElem_mem hi, hy⟩

/-! a block that is known whole -/
def Blk (w : World) (g : Nat) (T : TypeId) (cs : List Value) : Prop := w.heap[g]? = some (.cells cs.toArray T (0, 0))
theorem Blk.lt {w : World} {g : Nat} {T : TypeId} {cs : List Value} (h : Blk w g T cs) : g < w.heap.size := (Array.getElem?_eq_some_iff.1 h).1
theorem Blk.below {w w1 : World} {g : Nat} {T : TypeId} {cs : List Value} (h : Blk w g T cs) (hb : Below w.heap.size w w1) : Blk w1 g T cs := (hb.block g h.lt).trans h
theorem Blk.drewN {w : World} {g : Nat} {T : TypeId} {cs : List Value} (h : Blk w g T cs) (n : Nat) : Blk (w.drewN n) g T cs := h
theorem Blk.drewS {w : World} {g : Nat} {T : TypeId} {cs : List Value} (h : Blk w g T cs) : Blk w.drew g T cs := h
theorem Blk.new (w : World) (T : TypeId) (cs : List Value) : Blk (w.alloc (.cells cs.toArray T)) w.heap.size T cs := heap_alloc_new w _
theorem Blk.cell {w : World} {g : Nat} {T : TypeId} {cs : List Value} (h : Blk w g T cs) (j : Nat) : w.cell? ⟨g, j, none⟩ = cs[j]? := by
  unfold World.cell?
  unfold Blk at h
  simp [h]
theorem Blk.frozen {w : World} {g : Nat} {T : TypeId} {cs : List Value} (h : Blk w g T cs) (j : Nat) : w.frozen? ⟨g, j, none⟩ = false := by
  unfold World.frozen?
  unfold Blk at h
  simp [h]
theorem Blk.set {w : World} {g : Nat} {T : TypeId} {cs : List Value} (h : Blk w g T cs) (j : Nat) (v : Value) : Blk (w.setCell ⟨g, j, none⟩ v) g T (cs.set j v) := by
  unfold Blk at *
  simp only [World.setCell, Array.getElem?_modify, ↓reduceIte, h, Option.map_some]
  simp
theorem Blk.other {w : World} {g : Nat} {T : TypeId} {cs : List Value} (h : Blk w g T cs) {a : Addr} (ha : a.block ≠ g) (v : Value) : Blk (w.setCell a v) g T cs := by
  unfold Blk at *
  rw [Below.heap_setCell _ _ _ _ (by omega)]
  exact h
theorem Blk.alloc {w : World} {g : Nat} {T : TypeId} {cs : List Value} (h : Blk w g T cs) (o : Obj) : Blk (w.alloc o) g T cs := h.below (below_alloc (Below.refl _ _) o)
theorem Blk.set3 {w : World} {g : Nat} {T : TypeId} {a b c : Value} (h : Blk w g T [a, b, c]) (x y z : Value) : Blk (((w.setCell ⟨g, 0, none⟩ x).setCell ⟨g, 1, none⟩ y).setCell ⟨g, 2, none⟩ z) g T [x, y, z] := ((h.set 0 x).set 1 y).set 2 z
theorem Blk.c0 {w : World} {g : Nat} {T : TypeId} {a : Value} {l : List Value} (h : Blk w g T (a :: l)) : w.cell? ⟨g, 0, none⟩ = some a := h.cell 0
theorem Blk.c1 {w : World} {g : Nat} {T : TypeId} {a b : Value} {l : List Value} (h : Blk w g T (a :: b :: l)) : w.cell? ⟨g, 1, none⟩ = some b := h.cell 1
theorem Blk.c2 {w : World} {g : Nat} {T : TypeId} {a b c : Value} {l : List Value} (h : Blk w g T (a :: b :: c :: l)) : w.cell? ⟨g, 2, none⟩ = some c := h.cell 2
theorem addr_add (g j : Nat) : (⟨g, 0, none⟩ : Addr).add j = ⟨g, j, none⟩ := by unfold Addr.add; split <;> simp_all
theorem Blk.rd {w : World} {g : Nat} {T : TypeId} {cs : List Value} (h : Blk w g T cs) (m : Nat) (hm : m ≤ cs.length) : Rd w (some ⟨g, 0, none⟩) m fun j => cs.getD j undef := fun _ =>
  ⟨_, rfl, fun j hj => by rw [addr_add, h.cell j]; simp [List.getElem?_eq_getElem (show j < cs.length by omega)]⟩
theorem made_one (z : Value) (n : Nat) : madeCells #[z] n = (List.replicate n z).toArray := by
  apply Array.ext_getElem?
  intro i
  simp only [madeCells, Array.getElem?_map, List.getElem?_toArray, List.getElem?_replicate]
  by_cases hi : i < n
  · simp [hi, Nat.mod_one]
  · simp [hi]

/-- the block that has been made last, behind a call -/
theorem blkNew {W w1 : World} {T : TypeId} {cs : List Value} (hb : Below ((W.alloc (.cells cs.toArray T)).drew).heap.size ((W.alloc (.cells cs.toArray T)).drew) w1) : Blk w1 W.heap.size T cs ∧ W.heap.size < w1.heap.size := by
  have h := (show Blk ((W.alloc (.cells cs.toArray T)).drew) W.heap.size T cs from Blk.new W T cs).below hb
  exact ⟨h, h.lt⟩

/-! a row that is filled from the left -/
def fillL {α : Type} (f : α → Value) (z : Value) (xs : List α) (k : Nat) : List Value := (xs.take k).map f ++ List.replicate (xs.length - k) z
theorem fillL_zero {α : Type} (f : α → Value) (z : Value) (xs : List α) : fillL f z xs 0 = List.replicate xs.length z := by simp [fillL]
theorem fillL_full {α : Type} (f : α → Value) (z : Value) (xs : List α) : fillL f z xs xs.length = xs.map f := by simp [fillL]
theorem fillL_length {α : Type} (f : α → Value) (z : Value) (xs : List α) {k : Nat} (hk : k ≤ xs.length) : (fillL f z xs k).length = xs.length := by simp [fillL]; omega
theorem fillL_at {α : Type} (f : α → Value) (z : Value) (xs : List α) {k : Nat} (hk : k < xs.length) : (fillL f z xs k)[k]? = some z := by
  unfold fillL
  rw [List.getElem?_append_right (by simp; omega), List.getElem?_replicate]
  rw [if_pos (by simp; omega)]
theorem fillL_set {α : Type} (f : α → Value) (z : Value) (xs : List α) {k : Nat} (hk : k < xs.length) : (fillL f z xs k).set k (f xs[k]) = fillL f z xs (k + 1) := by
  unfold fillL
  have h1 : xs.length - k = (xs.length - (k + 1)) + 1 := by omega
  rw [List.set_append_right _ _ (by simp; omega), h1, List.replicate_succ, List.take_succ_eq_append_getElem hk, List.map_append, List.append_assoc]
  simp only [List.length_map, List.length_take, Nat.min_eq_left (Nat.le_of_lt hk), Nat.sub_self, List.set_cons_zero, List.map_cons, List.map_nil, List.cons_append, List.nil_append]
abbrev fv32 (x : Nat) : Value := .float .f32 x
theorem Blk.rdF {w : World} {g : Nat} {T : TypeId} {xs : List Nat} (h : Blk w g T (xs.map fv32)) (hl : xs.length ≤ 9223372036854775807) : RdF w (some ⟨g, 0, none⟩) xs :=
  ⟨hl, fun _ => ⟨_, rfl, fun j hj => by rw [addr_add, h.cell j]; simp [ge_eq hj, List.getElem?_eq_getElem hj, fv32]⟩⟩
/-- two rows of float32s that are the same, up to which NaN each is -/
def SameL (xs ys : List Nat) : Prop := xs.map (cn .f32) = ys.map (cn .f32)
theorem SameL.refl (xs : List Nat) : SameL xs xs := rfl
theorem SameL.length {xs ys : List Nat} (h : SameL xs ys) : xs.length = ys.length := by
  have := congrArg List.length h
  simpa using this
theorem SameL.at_ {xs ys : List Nat} (h : SameL xs ys) {k : Nat} (hk : k < xs.length) : cn .f32 (ge xs k) = cn .f32 (ge ys k) := by
  have h' : k < ys.length := by rw [← h.length]; exact hk
  rw [ge_eq hk, ge_eq h']
  have := congrArg (fun l => l[k]?) h
  simpa [List.getElem?_eq_getElem hk, List.getElem?_eq_getElem h'] using this
end Go.Lb
