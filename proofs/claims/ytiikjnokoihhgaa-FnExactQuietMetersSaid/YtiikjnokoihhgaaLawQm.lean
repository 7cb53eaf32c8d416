/-
  For every list of meters and every share the law FnExactQuietMeters returns true and its arguments read as they did. No condition.
-/
import Derived.Test.YtiikjnokoihhgaaRow
import Derived.Test.YtiikjnokoihhgaaOpi
import Derived.Test.YtiikjnokoihhgaaQl
namespace Go.Proofs.Ytiikjnokoihhgaa
open Go.ChangeShapes Go.WideShapes Go.ChangeAt Go.RowKit Go.Joins Go.Lb

set_option maxRecDepth 100000 in
theorem fnExactQuietMeters_lifted (os : Os) (started : os.Started) (H : Type) (enc : TypeId × Value → H) :
    ReturnsInHanded {} Try.checked os 9 .any (Rows.fnExactQuietMetersSpec.pre6 enc Try.prog Try.f9 Rows.fnExactQuietMetersRow.domain false) (Rows.fnExactQuietMetersSpec.post enc Try.prog Try.f9 false true false false) := by
  refine returnsInHanded_of_change (C := Try.checked) Try.own started (by kernel_rfl) Try.func9
    (ChangeSpec.witness6 (enc := enc) (C := Try.checked) false ⟨#[], #[.slice none 0 0, .float .f32 0], []⟩ 8 (by kernel_rfl) (by kernel_rfl) (by kernel_rfl) (by kernel_rfl)) ?_
  intro W base args ds gs before hval0 hW _ _
  have hval : ∀ (j : Nat) t v, Try.f9.params[j]? = some t → args[j]? = some v → Value.okWide Try.prog W .any base t v := hval0
  have hW' := hW
  obtain ⟨p, q, hA0, hV, rfl, hfz, hnd⟩ := hW
  have hA : DataW.TrodAll enc Try.prog W 0 (fun _ => true) true Try.f9.params.toList args.toList ds p := hA0
  rw [Try.params9] at hA hval
  obtain ⟨v0, v1, d0, d1, p0, p1, rfl, rfl, rfl, h0, h1⟩ := trodAll_two hA
  obtain ⟨B, e0, ms, rfl, HS⟩ := open_metersW Try.underlying46 Try.underlying24 cellsMeter rfl rfl (by kernel_rfl) (by kernel_rfl) rfl rfl Try.underlying2 Try.underlying22 (by kernel_rfl) (hval 0 46 v0 rfl rfl) h0
  obtain ⟨sh, rfl, rfl, rfl, _⟩ := open_float Try.underlying41 (hval 1 41 v1 rfl rfl) h1
  refine (fnExactQuietMeters_walk B e0 sh ms W HS).mono fun e W' ⟨he, hb⟩ => ⟨_, he, law_post Try.laidOut (by kernel_rfl) rfl Try.underlying4 rfl (fun h => by subst h; rfl) hW' hb⟩

theorem fnExactQuietMeters_holds : Rows.FnExactQuietMetersSaid :=
  OpenClaim.holds_of_wide 9 Try.f9 rfl rfl rfl rfl rfl rfl rfl ⟨rfl, rfl, rfl, rfl, rfl⟩ rfl rfl rfl rfl rfl (by kernel_rfl) Try.func9 (by kernel_rfl)
    (of_decide_eq_true (by kernel_rfl)) (by unfold Func.isWrapper; rw [if_neg (of_decide_eq_false (by kernel_rfl))]; exact ⟨rfl, rfl⟩)
    (fun os started H enc _ => fnExactQuietMeters_lifted os started H enc)

end Go.Proofs.Ytiikjnokoihhgaa
