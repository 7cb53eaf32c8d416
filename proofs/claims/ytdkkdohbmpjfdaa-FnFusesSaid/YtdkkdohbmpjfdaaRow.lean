/-
  What every row of this seat wants.
-/
import Derived.Test.YtdkkdohbmpjfdaaRows
import Derived.Test.YtdkkdohbmpjfdaaLift
namespace Go.Proofs.Ytdkkdohbmpjfdaa
theorem Try.own : ownKnob Try.prog.godebug = none := by kernel_rfl
theorem Try.laidOut : laidOutB Try.prog = true := by kernel_rfl
theorem cellsFuse : Try.prog.cellsOf 24 = 3 := by kernel_rfl
theorem cellsTap : Try.prog.cellsOf 43 = 5 := by kernel_rfl
theorem cellsCurve : Try.prog.cellsOf 51 = 2 := by kernel_rfl
end Go.Proofs.Ytdkkdohbmpjfdaa
