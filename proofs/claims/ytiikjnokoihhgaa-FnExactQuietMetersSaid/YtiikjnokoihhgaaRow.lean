/-
  What every row of this seat wants.
-/
import Derived.Test.YtiikjnokoihhgaaRows
import Derived.Test.YtiikjnokoihhgaaLift
namespace Go.Proofs.Ytiikjnokoihhgaa
theorem Try.own : ownKnob Try.prog.godebug = none := by kernel_rfl
theorem Try.laidOut : laidOutB Try.prog = true := by kernel_rfl
theorem cellsMeter : Try.prog.cellsOf 24 = 2 := by kernel_rfl
end Go.Proofs.Ytiikjnokoihhgaa
