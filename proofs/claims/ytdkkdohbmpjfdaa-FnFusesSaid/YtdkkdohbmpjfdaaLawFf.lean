/-
  For every two lists of bytes the law FnFuses returns true and its arguments read as they did. No condition.
-/
import Derived.Test.YtdkkdohbmpjfdaaRow
import Derived.Test.YtdkkdohbmpjfdaaOpu
import Derived.Test.YtdkkdohbmpjfdaaFx
namespace Go.Proofs.Ytdkkdohbmpjfdaa
open Go.ChangeShapes Go.WideShapes Go.ChangeAt Go.RowKit Go.Joins Go.Lb

set_option maxRecDepth 100000 in
theorem fnFuses_lifted (os : Os) (started : os.Started) (H : Type) (enc : TypeId × Value → H) :
    ReturnsInHanded {} Try.checked os 4 .any (Rows.fnFusesSpec.pre6 enc Try.prog Try.f4 Rows.fnFusesRow.domain false) (Rows.fnFusesSpec.post enc Try.prog Try.f4 false true false false) := by
  refine returnsInHanded_of_change (C := Try.checked) Try.own started (by kernel_rfl) Try.func4
    (ChangeSpec.witness6 (enc := enc) (C := Try.checked) false ⟨#[], #[.slice none 0 0, .slice none 0 0], []⟩ 8 (by kernel_rfl) (by kernel_rfl) (by kernel_rfl) (by kernel_rfl)) ?_
  intro W base args ds gs before hval0 hW _ _
  have hval : ∀ (j : Nat) t v, Try.f4.params[j]? = some t → args[j]? = some v → Value.okWide Try.prog W .any base t v := hval0
  have hW' := hW
  obtain ⟨p, q, hA0, hV, rfl, hfz, hnd⟩ := hW
  have hA : DataW.TrodAll enc Try.prog W 0 (fun _ => true) true Try.f4.params.toList args.toList ds p := hA0
  rw [Try.params4] at hA hval
  obtain ⟨v0, v1, d0, d1, p0, p1, rfl, rfl, rfl, h0, h1⟩ := trodAll_two hA
  obtain ⟨A, c, xs, rfl, HX⟩ := open_bytesW Try.underlying29 (by kernel_rfl) Try.underlying5 (hval 0 29 v0 rfl rfl) h0
  obtain ⟨B, d, ys, rfl, HY⟩ := open_bytesW Try.underlying29 (by kernel_rfl) Try.underlying5 (hval 1 29 v1 rfl rfl) h1
  refine (fnFuses_walk A B c d xs ys W HX HY).mono fun e W' ⟨he, hb⟩ => ⟨_, he, law_post Try.laidOut (by kernel_rfl) rfl Try.underlying4 rfl (fun h => by subst h; rfl) hW' hb⟩

theorem fnFuses_holds : Rows.FnFusesSaid :=
  OpenClaim.holds_of_wide 4 Try.f4 rfl rfl rfl rfl rfl rfl rfl ⟨rfl, rfl, rfl, rfl, rfl⟩ rfl rfl rfl rfl rfl (by kernel_rfl) Try.func4 (by kernel_rfl)
    (of_decide_eq_true (by kernel_rfl)) (by unfold Func.isWrapper; rw [if_neg (of_decide_eq_false (by kernel_rfl))]; exact ⟨rfl, rfl⟩)
    (fun os started H enc _ => fnFuses_lifted os started H enc)

end Go.Proofs.Ytdkkdohbmpjfdaa
