/-
  What a law's walk holds on to while it marks its copies and a result.
-/
import Derived.Test.YtiikjnokoihhgaaOj
import Derived.Test.YtiikjnokoihhgaaWi
namespace Go.Proofs.Ytiikjnokoihhgaa
open Go.RowKit Go.Fl Go.Lb

/-- below block lo all is as in wb; what the law marks of its copies lies from lo to hi; the result v2 lies from hi to top -/
structure MSt (wb wx : World) (hi top : Nat) (v2 : Value) (l2 : List Int) : Prop where
  bl : Below wb.heap.size wb wx
  o2 : OwnI wx hi v2 l2
  r2 : InR v2 hi top
  lo : wb.heap.size ≤ hi
section
variable {wb wx wy : World} {hi top : Nat} {v2 : Value} {l2 l2' : List Int}
theorem MSt.below (h : MSt wb wx hi top v2 l2) (hb : Below wx.heap.size wx wy) : MSt wb wy hi top v2 l2 := ⟨below_then h.bl hb, OwnI.below h.o2 hb, h.r2, h.lo⟩
theorem MSt.markX (h : MSt wb wx hi top v2 l2) (hw : Wi wb.heap.size hi wx wy) : MSt wb wy hi top v2 l2 :=
  ⟨hw.below h.bl h.bl.size (Nat.le_refl _), owns_wi h.o2 hw (h.r2.out (.inr (Nat.le_refl _))), h.r2, h.lo⟩
theorem MSt.markV (h : MSt wb wx hi top v2 l2) (hw : Wi hi top wx wy) (ho : OwnI wy hi v2 l2') : MSt wb wy hi top v2 l2' := ⟨hw.below h.bl h.bl.size h.lo, ho, h.r2, h.lo⟩
end
theorem markOwnI_wi {w : World} {B lo hi : Nat} {v : Value} {xs : List Int} (a : Nat) (h : OwnI w B v xs) (hr : InR v lo hi) (hl : xs.length ≤ 1048576) (ha : a ≤ 3145728) :
    Calls Try.prog 21 #[v, .int .i64 a] w fun e w' => e = .returned (.int .i64 ((a + xs.length : Nat) : Int)) ∧ OwnI w' B v (marks a xs.length) ∧ Wi lo hi w w' := by
  refine (markOwnI_any a h hl ha).mono ?_
  rintro e w' ⟨rfl, ho, hg⟩
  exact ⟨rfl, ho, Wi.of_grown hg hr⟩
theorem markMeter_wi (g a lo hi : Nat) (z : Int) (xs : List Int) (w : World) (HB : Blk w g 2 (xs.map iv)) (hl : xs.length ≤ 1048576) (ha : a ≤ 3145728) (h1 : lo ≤ g) (h2 : g < hi) :
    Calls Try.prog 20 #[meterV z (some ⟨g, 0, none⟩) xs.length xs.length, .int .i64 a] w fun e w' => e = .returned (.int .i64 ((a + xs.length : Nat) : Int)) ∧ Wi lo hi w w' := by
  refine (markMeter_any g a z xs w HB hl ha).mono ?_
  rintro e w' ⟨rfl, hg⟩
  exact ⟨rfl, Wi.of_grown hg (fun k hk => by injection hk with hk; subst hk; exact ⟨h1, h2⟩)⟩
theorem eqOwnB_any {w : World} {B B' : Nat} {v v' : Value} {xs : List Int} (h : OwnI w B v xs) (h' : OwnI w B' v' xs) :
    Calls Try.prog 19 #[v, v'] w fun e w' => e = .returned (.bool true) ∧ Below w.heap.size w w' := by
  refine (eqOwnI_any h h').mono ?_
  rintro e w' ⟨rfl, n, rfl⟩
  exact ⟨rfl, below_drewN (Below.refl _ _) n⟩
end Go.Proofs.Ytiikjnokoihhgaa
