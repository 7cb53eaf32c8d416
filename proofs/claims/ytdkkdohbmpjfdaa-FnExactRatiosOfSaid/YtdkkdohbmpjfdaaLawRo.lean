/-
  For every tap changer the law FnExactRatiosOf returns true and its argument reads as it did. No condition.
-/
import Derived.Test.YtdkkdohbmpjfdaaRow
import Derived.Test.YtdkkdohbmpjfdaaOpen
import Derived.Test.YtdkkdohbmpjfdaaRo
namespace Go.Proofs.Ytdkkdohbmpjfdaa
open Go.ChangeShapes Go.WideShapes Go.ChangeAt Go.RowKit Go.Joins Go.Lb

set_option maxRecDepth 100000 in
theorem fnExactRatiosOf_lifted (os : Os) (started : os.Started) (H : Type) (enc : TypeId × Value → H) :
    ReturnsInHanded {} Try.checked os 7 .any (Rows.fnExactRatiosOfSpec.pre6 enc Try.prog Try.f7 Rows.fnExactRatiosOfRow.domain false) (Rows.fnExactRatiosOfSpec.post enc Try.prog Try.f7 false true false false) := by
  refine returnsInHanded_of_change (C := Try.checked) Try.own started (by kernel_rfl) Try.func7
    (ChangeSpec.witness6 (enc := enc) (C := Try.checked) false ⟨#[], #[.agg #[.int .i64 0, .int .i64 0, .int .i64 0, .int .i64 0, .float .f32 0]], []⟩ 8 (by kernel_rfl) (by kernel_rfl) (by kernel_rfl) (by kernel_rfl)) ?_
  intro W base args ds gs before hval0 hW _ _
  have hval : ∀ (j : Nat) t v, Try.f7.params[j]? = some t → args[j]? = some v → Value.okWide Try.prog W .any base t v := hval0
  have hW' := hW
  obtain ⟨p, q, hA0, hV, rfl, hfz, hnd⟩ := hW
  have hA : DataW.TrodAll enc Try.prog W 0 (fun _ => true) true Try.f7.params.toList args.toList ds p := hA0
  rw [Try.params7] at hA hval
  obtain ⟨v0, d0, rfl, rfl, h0⟩ := trodAll_one hA
  obtain ⟨cs, m, rfl, hsz, hy⟩ := open_cells Try.underlying43 (by kernel_rfl) cellsTap (hval 0 43 v0 rfl rfl) h0
  obtain ⟨c0, c1, c2, c3, c4, rfl⟩ := cells_five hsz
  obtain ⟨y0, hy0⟩ := hy 0 c0 _ rfl rfl
  obtain ⟨y1, hy1⟩ := hy 1 c1 _ rfl rfl
  obtain ⟨y2, hy2⟩ := hy 2 c2 _ rfl rfl
  obtain ⟨y3, hy3⟩ := hy 3 c3 _ rfl rfl
  obtain ⟨y4, hy4⟩ := hy 4 c4 _ rfl rfl
  obtain ⟨bus, rfl, _⟩ := cell_int Try.underlying2 hy0
  obtain ⟨a, rfl, _⟩ := cell_int Try.underlying2 hy1
  obtain ⟨b, rfl, _⟩ := cell_int Try.underlying2 hy2
  obtain ⟨c, rfl, _⟩ := cell_int Try.underlying2 hy3
  obtain ⟨e, rfl⟩ := trod_float Try.underlying22 hy4
  refine (fnExactRatiosOf_walk bus a b c e W).mono fun e W' ⟨he, hb⟩ => ⟨_, he, law_post Try.laidOut (by kernel_rfl) rfl Try.underlying4 rfl (fun h => by subst h; rfl) hW' hb⟩

theorem fnExactRatiosOf_holds : Rows.FnExactRatiosOfSaid :=
  OpenClaim.holds_of_wide 7 Try.f7 rfl rfl rfl rfl rfl rfl rfl ⟨rfl, rfl, rfl, rfl, rfl⟩ rfl rfl rfl rfl rfl (by kernel_rfl) Try.func7 (by kernel_rfl)
    (of_decide_eq_true (by kernel_rfl)) (by unfold Func.isWrapper; rw [if_neg (of_decide_eq_false (by kernel_rfl))]; exact ⟨rfl, rfl⟩)
    (fun os started H enc _ => fnExactRatiosOf_lifted os started H enc)

end Go.Proofs.Ytdkkdohbmpjfdaa
