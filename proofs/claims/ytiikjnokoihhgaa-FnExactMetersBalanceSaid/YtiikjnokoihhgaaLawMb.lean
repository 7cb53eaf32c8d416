/-
  For every meter and every list of meters the law FnExactMetersBalance returns true and its arguments read as they did. No condition.
-/
import Derived.Test.YtiikjnokoihhgaaRow
import Derived.Test.YtiikjnokoihhgaaOpi
import Derived.Test.YtiikjnokoihhgaaLs
namespace Go.Proofs.Ytiikjnokoihhgaa
open Go.ChangeShapes Go.WideShapes Go.ChangeAt Go.RowKit Go.Joins Go.Lb

set_option maxRecDepth 100000 in
theorem fnExactMetersBalance_lifted (os : Os) (started : os.Started) (H : Type) (enc : TypeId × Value → H) :
    ReturnsInHanded {} Try.checked os 8 .any (Rows.fnExactMetersBalanceSpec.pre6 enc Try.prog Try.f8 Rows.fnExactMetersBalanceRow.domain false) (Rows.fnExactMetersBalanceSpec.post enc Try.prog Try.f8 false true false false) := by
  refine returnsInHanded_of_change (C := Try.checked) Try.own started (by kernel_rfl) Try.func8
    (ChangeSpec.witness6 (enc := enc) (C := Try.checked) false ⟨#[], #[.agg #[.int .i64 0, .slice none 0 0], .slice none 0 0], []⟩ 8 (by kernel_rfl) (by kernel_rfl) (by kernel_rfl) (by kernel_rfl)) ?_
  intro W base args ds gs before hval0 hW _ _
  have hval : ∀ (j : Nat) t v, Try.f8.params[j]? = some t → args[j]? = some v → Value.okWide Try.prog W .any base t v := hval0
  have hW' := hW
  obtain ⟨p, q, hA0, hV, rfl, hfz, hnd⟩ := hW
  have hA : DataW.TrodAll enc Try.prog W 0 (fun _ => true) true Try.f8.params.toList args.toList ds p := hA0
  rw [Try.params8] at hA hval
  obtain ⟨v0, v1, d0, d1, p0, p1, rfl, rfl, rfl, h0, h1⟩ := trodAll_two hA
  obtain ⟨c0, c1, y0, y1, m, rfl, rfl, _, hy0, hy1⟩ := open_agg2 Try.underlying24 (by kernel_rfl) cellsMeter (hval 0 24 v0 rfl rfl) h0
  obtain ⟨z, rfl, _⟩ := cell_int Try.underlying2 hy0
  obtain ⟨A, c, xs, rfl, HX, _⟩ := cell_ints Try.underlying22 (by kernel_rfl) Try.underlying2 hy1
  obtain ⟨B, e0, ms, rfl, HS⟩ := open_metersW Try.underlying46 Try.underlying24 cellsMeter rfl rfl (by kernel_rfl) (by kernel_rfl) rfl rfl Try.underlying2 Try.underlying22 (by kernel_rfl) (hval 1 46 v1 rfl rfl) h1
  refine (fnExactMetersBalance_walk A B c e0 z xs ms W HX HS).mono fun e W' ⟨he, hb⟩ => ⟨_, he, law_post Try.laidOut (by kernel_rfl) rfl Try.underlying4 rfl (fun h => by subst h; rfl) hW' hb⟩

theorem fnExactMetersBalance_holds : Rows.FnExactMetersBalanceSaid :=
  OpenClaim.holds_of_wide 8 Try.f8 rfl rfl rfl rfl rfl rfl rfl ⟨rfl, rfl, rfl, rfl, rfl⟩ rfl rfl rfl rfl rfl (by kernel_rfl) Try.func8 (by kernel_rfl)
    (of_decide_eq_true (by kernel_rfl)) (by unfold Func.isWrapper; rw [if_neg (of_decide_eq_false (by kernel_rfl))]; exact ⟨rfl, rfl⟩)
    (fun os started H enc _ => fnExactMetersBalance_lifted os started H enc)

end Go.Proofs.Ytiikjnokoihhgaa
