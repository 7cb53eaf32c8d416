/-
  For every two curves, whatever their lists, and every two currents and number of steps, the law FnExactGradeOf returns true and the curves read as they did. No condition.
-/
import Derived.Test.YtdkkdohbmpjfdaaRow
import Derived.Test.YtdkkdohbmpjfdaaOpen
import Derived.Test.YtdkkdohbmpjfdaaGl
namespace Go.Proofs.Ytdkkdohbmpjfdaa
open Go.ChangeShapes Go.WideShapes Go.ChangeAt Go.RowKit Go.Joins Go.Lb

set_option maxRecDepth 100000 in
theorem fnExactGradeOf_lifted (os : Os) (started : os.Started) (H : Type) (enc : TypeId × Value → H) :
    ReturnsInHanded {} Try.checked os 13 .any (Rows.fnExactGradeOfSpec.pre6 enc Try.prog Try.f13 Rows.fnExactGradeOfRow.domain false) (Rows.fnExactGradeOfSpec.post enc Try.prog Try.f13 false true false false) := by
  refine returnsInHanded_of_change (C := Try.checked) Try.own started (by kernel_rfl) Try.func13
    (ChangeSpec.witness6 (enc := enc) (C := Try.checked) false ⟨#[], #[.agg #[.slice none 0 0, .slice none 0 0], .agg #[.slice none 0 0, .slice none 0 0], .float .f32 0, .float .f32 0, .int .i64 0], []⟩ 8 (by kernel_rfl) (by kernel_rfl) (by kernel_rfl) (by kernel_rfl)) ?_
  intro W base args ds gs before hval0 hW _ _
  have hval : ∀ (j : Nat) t v, Try.f13.params[j]? = some t → args[j]? = some v → Value.okWide Try.prog W .any base t v := hval0
  have hW' := hW
  obtain ⟨p, q, hA0, hV, rfl, hfz, hnd⟩ := hW
  have hA : DataW.TrodAll enc Try.prog W 0 (fun _ => true) true Try.f13.params.toList args.toList ds p := hA0
  rw [Try.params13] at hA hval
  obtain ⟨v0, v1, v2, v3, v4, d0, d1, d2, d3, d4, p0, p1, p2, p3, p4, rfl, rfl, rfl, h0, h1, h2, h3, h4⟩ := trodAll_five hA
  obtain ⟨c0, c1, y0, y1, m, rfl, rfl, _, hy0, hy1⟩ := open_agg2 Try.underlying51 (by kernel_rfl) cellsCurve (hval 0 51 v0 rfl rfl) h0
  obtain ⟨A, c, xs, rfl, HX⟩ := cell_floats Try.underlying32 (by kernel_rfl) Try.underlying22 hy0
  obtain ⟨B, d, ts, rfl, HT⟩ := cell_floats Try.underlying32 (by kernel_rfl) Try.underlying22 hy1
  obtain ⟨c2, c3, y2, y3, m', rfl, rfl, _, hy2, hy3⟩ := open_agg2 Try.underlying51 (by kernel_rfl) cellsCurve (hval 1 51 v1 rfl rfl) h1
  obtain ⟨A', c', xs', rfl, HX'⟩ := cell_floats Try.underlying32 (by kernel_rfl) Try.underlying22 hy2
  obtain ⟨B', d', ts', rfl, HT'⟩ := cell_floats Try.underlying32 (by kernel_rfl) Try.underlying22 hy3
  obtain ⟨fr, rfl, rfl, rfl, _⟩ := open_float Try.underlying22 (hval 2 22 v2 rfl rfl) h2
  obtain ⟨en, rfl, rfl, rfl, _⟩ := open_float Try.underlying22 (hval 3 22 v3 rfl rfl) h3
  obtain ⟨z, rfl, rfl, rfl, _⟩ := open_int Try.underlying2 (hval 4 2 v4 rfl rfl) h4
  refine (fnExactGradeOf_walk A B A' B' c d c' d' xs ts xs' ts' fr en z W HX HT HX' HT').mono fun e W' ⟨he, hb⟩ => ⟨_, he, law_post Try.laidOut (by kernel_rfl) rfl Try.underlying4 rfl (fun h => by subst h; rfl) hW' hb⟩

theorem fnExactGradeOf_holds : Rows.FnExactGradeOfSaid :=
  OpenClaim.holds_of_wide 13 Try.f13 rfl rfl rfl rfl rfl rfl rfl ⟨rfl, rfl, rfl, rfl, rfl⟩ rfl rfl rfl rfl rfl (by kernel_rfl) Try.func13 (by kernel_rfl)
    (of_decide_eq_true (by kernel_rfl)) (by unfold Func.isWrapper; rw [if_neg (of_decide_eq_false (by kernel_rfl))]; exact ⟨rfl, rfl⟩)
    (fun os started H enc _ => fnExactGradeOf_lifted os started H enc)

end Go.Proofs.Ytdkkdohbmpjfdaa
