/-
  For every fuse, list of currents and number of ticks, the law FnExactRunFuse returns true and its arguments read as they did. No condition.
-/
import Derived.Test.YtdkkdohbmpjfdaaRow
import Derived.Test.YtdkkdohbmpjfdaaOpen
import Derived.Test.YtdkkdohbmpjfdaaWf
namespace Go.Proofs.Ytdkkdohbmpjfdaa
open Go.ChangeShapes Go.WideShapes Go.ChangeAt Go.RowKit Go.Joins Go.Lb

set_option maxRecDepth 100000 in
theorem fnExactRunFuse_lifted (os : Os) (started : os.Started) (H : Type) (enc : TypeId × Value → H) :
    ReturnsInHanded {} Try.checked os 6 .any (Rows.fnExactRunFuseSpec.pre6 enc Try.prog Try.f6 Rows.fnExactRunFuseRow.domain false) (Rows.fnExactRunFuseSpec.post enc Try.prog Try.f6 false true false false) := by
  refine returnsInHanded_of_change (C := Try.checked) Try.own started (by kernel_rfl) Try.func6
    (ChangeSpec.witness6 (enc := enc) (C := Try.checked) false ⟨#[], #[.agg #[.float .f32 0, .float .f32 0, .float .f32 0], .slice none 0 0, .float .f32 0], []⟩ 8 (by kernel_rfl) (by kernel_rfl) (by kernel_rfl) (by kernel_rfl)) ?_
  intro W base args ds gs before hval0 hW _ _
  have hval : ∀ (j : Nat) t v, Try.f6.params[j]? = some t → args[j]? = some v → Value.okWide Try.prog W .any base t v := hval0
  have hW' := hW
  obtain ⟨p, q, hA0, hV, rfl, hfz, hnd⟩ := hW
  have hA : DataW.TrodAll enc Try.prog W 0 (fun _ => true) true Try.f6.params.toList args.toList ds p := hA0
  rw [Try.params6] at hA hval
  obtain ⟨v0, v1, v2, d0, d1, d2, p0, p1, p2, rfl, rfl, rfl, h0, h1, h2⟩ := trodAll_three hA
  obtain ⟨c0, c1, c2, y0, y1, y2, m, rfl, rfl, rfl, hy0, hy1, hy2⟩ := open_agg3 Try.underlying24 (by kernel_rfl) cellsFuse (hval 0 24 v0 rfl rfl) h0
  obtain ⟨x0, rfl⟩ := trod_float Try.underlying22 hy0
  obtain ⟨x1, rfl⟩ := trod_float Try.underlying22 hy1
  obtain ⟨x2, rfl⟩ := trod_float Try.underlying22 hy2
  obtain ⟨A, cp, xs, rfl, HX⟩ := open_floats Try.underlying32 (by kernel_rfl) Try.underlying22 (hval 1 32 v1 rfl rfl) h1
  obtain ⟨ti, rfl, rfl, rfl, _⟩ := open_float Try.underlying22 (hval 2 22 v2 rfl rfl) h2
  refine (fnExactRunFuse_walk x0 x1 x2 ti A cp xs W HX).mono fun e W' ⟨he, hb⟩ => ⟨_, he, law_post Try.laidOut (by kernel_rfl) rfl Try.underlying4 rfl (fun h => by subst h; rfl) hW' hb⟩

theorem fnExactRunFuse_holds : Rows.FnExactRunFuseSaid :=
  OpenClaim.holds_of_wide 6 Try.f6 rfl rfl rfl rfl rfl rfl rfl ⟨rfl, rfl, rfl, rfl, rfl⟩ rfl rfl rfl rfl rfl (by kernel_rfl) Try.func6 (by kernel_rfl)
    (of_decide_eq_true (by kernel_rfl)) (by unfold Func.isWrapper; rw [if_neg (of_decide_eq_false (by kernel_rfl))]; exact ⟨rfl, rfl⟩)
    (fun os started H enc _ => fnExactRunFuse_lifted os started H enc)

end Go.Proofs.Ytdkkdohbmpjfdaa
