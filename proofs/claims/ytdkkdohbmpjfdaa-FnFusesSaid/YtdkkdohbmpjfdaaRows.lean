/-
  No cell of these rows narrows 'for every input' (looked for: loops, veiled, ifaces, maps, wideKeys, modest, calm, conditions, laid).
  DERIVED. THE GIVEN ROWS OF THIS SEAT. 11 by the template 'for every input the law returns true; each argument reads behind the call as it read before'; 0 by the template 'total and deterministic' (their statements: YtdkkdohbmpjfdaaTotals.lean).
  GIVEN WITH THE SEED: the statements are not yours to turn. If you find one false, say at which input.
  Laid BY PROGRAM, IN A SANDBOX (cutbox-rows.mjs): the forced cells as the released guide's own fill.sh prints them over the translation 3b53dacbcbdb6cf9… (all of the seat's roots in one cut). By AI agents, Wed Nov 11 2026. No macro, syntax, notation, axiom, sorry.
-/
import Derived.Test.YtdkkdohbmpjfdaaChecked
import GoSem.Claim
import GoSem.ClaimJoined
import GoSem.ClaimMapViews
import Derived.JoinedTies
import Derived.KernelRfl
namespace Go.Proofs.Ytdkkdohbmpjfdaa
/- THE CELL 'sum', in the pinned program and in every row, IS THE sha256 OF THE DUMP (.gsa) THAT YtdkkdohbmpjfdaaProg.lean LOADS. Nothing in Lean hashes anything: it is a label: what it is worth is what the hold of that sum in a sandbox is worth. -/
noncomputable def Try.pinned : Pinned := { name := "ytdkkdohbmpjfdaa", sum := "3b53dacbcbdb6cf9e7fd48902e4ad3ae7641353acce651440b584f684674afdb", checked := Try.checked }
namespace Rows
def none {H : Type} : Left H := { results := [], args := [] }

/-- 'laws.FnExactValidFuse': WHATEVER THE INPUT: true; the input reads as it did. -/
def fnExactValidFuseSpec : ChangeSpec := { name := "fnExactValidFuse", fn := fun _ => fun
  | [d] => { results := [.lit (.bool true)], args := [d] }
  | _ => none }
def fnExactValidFuseRow : OpenClaim := { program := "ytdkkdohbmpjfdaa", sum := "3b53dacbcbdb6cf9e7fd48902e4ad3ae7641353acce651440b584f684674afdb", func := "loop.example/g01212/laws.FnExactValidFuse", spec := "fnExactValidFuse", unfollowed := true, recurses := true, apart := false }
def FnExactValidFuseSaid : Prop := fnExactValidFuseRow.holds Try.pinned (OpenSpec.ofChange fnExactValidFuseSpec)

/-- ITS FALSE NEIGHBOUR: 'it returns false'. Refute it at one input. -/
def fnExactValidFuseWrong : ChangeSpec := { name := "fnExactValidFuse", fn := fun _ => fun
  | [d] => { results := [.lit (.bool false)], args := [d] }
  | _ => none }
def FnExactValidFuseWrongFalsely : Prop := fnExactValidFuseRow.holds Try.pinned (OpenSpec.ofChange fnExactValidFuseWrong)

/-- 'laws.FnFuses': WHATEVER THE INPUT: true; the input reads as it did. -/
def fnFusesSpec : ChangeSpec := { name := "fnFuses", fn := fun _ => fun
  | [d1, d2] => { results := [.lit (.bool true)], args := [d1, d2] }
  | _ => none }
def fnFusesRow : OpenClaim := { program := "ytdkkdohbmpjfdaa", sum := "3b53dacbcbdb6cf9e7fd48902e4ad3ae7641353acce651440b584f684674afdb", func := "loop.example/g01212/laws.FnFuses", spec := "fnFuses", unfollowed := true, recurses := true, apart := false }
def FnFusesSaid : Prop := fnFusesRow.holds Try.pinned (OpenSpec.ofChange fnFusesSpec)

/-- ITS FALSE NEIGHBOUR: 'it returns false'. Refute it at one input. -/
def fnFusesWrong : ChangeSpec := { name := "fnFuses", fn := fun _ => fun
  | [d1, d2] => { results := [.lit (.bool false)], args := [d1, d2] }
  | _ => none }
def FnFusesWrongFalsely : Prop := fnFusesRow.holds Try.pinned (OpenSpec.ofChange fnFusesWrong)

/-- 'laws.FnExactHeatFuse': WHATEVER THE INPUT: true; the input reads as it did. -/
def fnExactHeatFuseSpec : ChangeSpec := { name := "fnExactHeatFuse", fn := fun _ => fun
  | [d1, d2, d3] => { results := [.lit (.bool true)], args := [d1, d2, d3] }
  | _ => none }
def fnExactHeatFuseRow : OpenClaim := { program := "ytdkkdohbmpjfdaa", sum := "3b53dacbcbdb6cf9e7fd48902e4ad3ae7641353acce651440b584f684674afdb", func := "loop.example/g01212/laws.FnExactHeatFuse", spec := "fnExactHeatFuse", unfollowed := true, recurses := true, apart := false }
def FnExactHeatFuseSaid : Prop := fnExactHeatFuseRow.holds Try.pinned (OpenSpec.ofChange fnExactHeatFuseSpec)

/-- ITS FALSE NEIGHBOUR: 'it returns false'. Refute it at one input. -/
def fnExactHeatFuseWrong : ChangeSpec := { name := "fnExactHeatFuse", fn := fun _ => fun
  | [d1, d2, d3] => { results := [.lit (.bool false)], args := [d1, d2, d3] }
  | _ => none }
def FnExactHeatFuseWrongFalsely : Prop := fnExactHeatFuseRow.holds Try.pinned (OpenSpec.ofChange fnExactHeatFuseWrong)

/-- 'laws.FnExactRunFuse': WHATEVER THE INPUT: true; the input reads as it did. -/
def fnExactRunFuseSpec : ChangeSpec := { name := "fnExactRunFuse", fn := fun _ => fun
  | [d1, d2, d3] => { results := [.lit (.bool true)], args := [d1, d2, d3] }
  | _ => none }
def fnExactRunFuseRow : OpenClaim := { program := "ytdkkdohbmpjfdaa", sum := "3b53dacbcbdb6cf9e7fd48902e4ad3ae7641353acce651440b584f684674afdb", func := "loop.example/g01212/laws.FnExactRunFuse", spec := "fnExactRunFuse", unfollowed := true, recurses := true, apart := false }
def FnExactRunFuseSaid : Prop := fnExactRunFuseRow.holds Try.pinned (OpenSpec.ofChange fnExactRunFuseSpec)

/-- ITS FALSE NEIGHBOUR: 'it returns false'. Refute it at one input. -/
def fnExactRunFuseWrong : ChangeSpec := { name := "fnExactRunFuse", fn := fun _ => fun
  | [d1, d2, d3] => { results := [.lit (.bool false)], args := [d1, d2, d3] }
  | _ => none }
def FnExactRunFuseWrongFalsely : Prop := fnExactRunFuseRow.holds Try.pinned (OpenSpec.ofChange fnExactRunFuseWrong)

/-- 'laws.FnExactRatiosOf': WHATEVER THE INPUT: true; the input reads as it did. -/
def fnExactRatiosOfSpec : ChangeSpec := { name := "fnExactRatiosOf", fn := fun _ => fun
  | [d] => { results := [.lit (.bool true)], args := [d] }
  | _ => none }
def fnExactRatiosOfRow : OpenClaim := { program := "ytdkkdohbmpjfdaa", sum := "3b53dacbcbdb6cf9e7fd48902e4ad3ae7641353acce651440b584f684674afdb", func := "loop.example/g01212/laws.FnExactRatiosOf", spec := "fnExactRatiosOf", apart := false }
def FnExactRatiosOfSaid : Prop := fnExactRatiosOfRow.holds Try.pinned (OpenSpec.ofChange fnExactRatiosOfSpec)

/-- ITS FALSE NEIGHBOUR: 'it returns false'. Refute it at one input. -/
def fnExactRatiosOfWrong : ChangeSpec := { name := "fnExactRatiosOf", fn := fun _ => fun
  | [d] => { results := [.lit (.bool false)], args := [d] }
  | _ => none }
def FnExactRatiosOfWrongFalsely : Prop := fnExactRatiosOfRow.holds Try.pinned (OpenSpec.ofChange fnExactRatiosOfWrong)

/-- 'laws.FnExactValidCurve': WHATEVER THE INPUT: true; the input reads as it did. -/
def fnExactValidCurveSpec : ChangeSpec := { name := "fnExactValidCurve", fn := fun _ => fun
  | [d] => { results := [.lit (.bool true)], args := [d] }
  | _ => none }
def fnExactValidCurveRow : OpenClaim := { program := "ytdkkdohbmpjfdaa", sum := "3b53dacbcbdb6cf9e7fd48902e4ad3ae7641353acce651440b584f684674afdb", func := "loop.example/g01212/laws.FnExactValidCurve", spec := "fnExactValidCurve", apart := false }
def FnExactValidCurveSaid : Prop := fnExactValidCurveRow.holds Try.pinned (OpenSpec.ofChange fnExactValidCurveSpec)

/-- ITS FALSE NEIGHBOUR: 'it returns false'. Refute it at one input. -/
def fnExactValidCurveWrong : ChangeSpec := { name := "fnExactValidCurve", fn := fun _ => fun
  | [d] => { results := [.lit (.bool false)], args := [d] }
  | _ => none }
def FnExactValidCurveWrongFalsely : Prop := fnExactValidCurveRow.holds Try.pinned (OpenSpec.ofChange fnExactValidCurveWrong)

/-- 'laws.FnExactSameCurve': WHATEVER THE INPUT: true; the input reads as it did. -/
def fnExactSameCurveSpec : ChangeSpec := { name := "fnExactSameCurve", fn := fun _ => fun
  | [d1, d2] => { results := [.lit (.bool true)], args := [d1, d2] }
  | _ => none }
def fnExactSameCurveRow : OpenClaim := { program := "ytdkkdohbmpjfdaa", sum := "3b53dacbcbdb6cf9e7fd48902e4ad3ae7641353acce651440b584f684674afdb", func := "loop.example/g01212/laws.FnExactSameCurve", spec := "fnExactSameCurve", inPlace := ["math.Float32bits"], unfollowed := true, recurses := true, apart := false }
def FnExactSameCurveSaid : Prop := fnExactSameCurveRow.holds Try.pinned (OpenSpec.ofChange fnExactSameCurveSpec)

/-- ITS FALSE NEIGHBOUR: 'it returns false'. Refute it at one input. -/
def fnExactSameCurveWrong : ChangeSpec := { name := "fnExactSameCurve", fn := fun _ => fun
  | [d1, d2] => { results := [.lit (.bool false)], args := [d1, d2] }
  | _ => none }
def FnExactSameCurveWrongFalsely : Prop := fnExactSameCurveRow.holds Try.pinned (OpenSpec.ofChange fnExactSameCurveWrong)

/-- 'laws.FnExactTimeAt': WHATEVER THE INPUT: true; the input reads as it did. -/
def fnExactTimeAtSpec : ChangeSpec := { name := "fnExactTimeAt", fn := fun _ => fun
  | [d1, d2] => { results := [.lit (.bool true)], args := [d1, d2] }
  | _ => none }
def fnExactTimeAtRow : OpenClaim := { program := "ytdkkdohbmpjfdaa", sum := "3b53dacbcbdb6cf9e7fd48902e4ad3ae7641353acce651440b584f684674afdb", func := "loop.example/g01212/laws.FnExactTimeAt", spec := "fnExactTimeAt", apart := false }
def FnExactTimeAtSaid : Prop := fnExactTimeAtRow.holds Try.pinned (OpenSpec.ofChange fnExactTimeAtSpec)

/-- ITS FALSE NEIGHBOUR: 'it returns false'. Refute it at one input. -/
def fnExactTimeAtWrong : ChangeSpec := { name := "fnExactTimeAt", fn := fun _ => fun
  | [d1, d2] => { results := [.lit (.bool false)], args := [d1, d2] }
  | _ => none }
def FnExactTimeAtWrongFalsely : Prop := fnExactTimeAtRow.holds Try.pinned (OpenSpec.ofChange fnExactTimeAtWrong)

/-- 'laws.FnExactMarginAt': WHATEVER THE INPUT: true; the input reads as it did. -/
def fnExactMarginAtSpec : ChangeSpec := { name := "fnExactMarginAt", fn := fun _ => fun
  | [d1, d2, d3] => { results := [.lit (.bool true)], args := [d1, d2, d3] }
  | _ => none }
def fnExactMarginAtRow : OpenClaim := { program := "ytdkkdohbmpjfdaa", sum := "3b53dacbcbdb6cf9e7fd48902e4ad3ae7641353acce651440b584f684674afdb", func := "loop.example/g01212/laws.FnExactMarginAt", spec := "fnExactMarginAt", apart := false }
def FnExactMarginAtSaid : Prop := fnExactMarginAtRow.holds Try.pinned (OpenSpec.ofChange fnExactMarginAtSpec)

/-- ITS FALSE NEIGHBOUR: 'it returns false'. Refute it at one input. -/
def fnExactMarginAtWrong : ChangeSpec := { name := "fnExactMarginAt", fn := fun _ => fun
  | [d1, d2, d3] => { results := [.lit (.bool false)], args := [d1, d2, d3] }
  | _ => none }
def FnExactMarginAtWrongFalsely : Prop := fnExactMarginAtRow.holds Try.pinned (OpenSpec.ofChange fnExactMarginAtWrong)

/-- 'laws.FnExactScaleCurve': WHATEVER THE INPUT: true; the input reads as it did. -/
def fnExactScaleCurveSpec : ChangeSpec := { name := "fnExactScaleCurve", fn := fun _ => fun
  | [d1, d2, d3] => { results := [.lit (.bool true)], args := [d1, d2, d3] }
  | _ => none }
def fnExactScaleCurveRow : OpenClaim := { program := "ytdkkdohbmpjfdaa", sum := "3b53dacbcbdb6cf9e7fd48902e4ad3ae7641353acce651440b584f684674afdb", func := "loop.example/g01212/laws.FnExactScaleCurve", spec := "fnExactScaleCurve", apart := false }
def FnExactScaleCurveSaid : Prop := fnExactScaleCurveRow.holds Try.pinned (OpenSpec.ofChange fnExactScaleCurveSpec)

/-- ITS FALSE NEIGHBOUR: 'it returns false'. Refute it at one input. -/
def fnExactScaleCurveWrong : ChangeSpec := { name := "fnExactScaleCurve", fn := fun _ => fun
  | [d1, d2, d3] => { results := [.lit (.bool false)], args := [d1, d2, d3] }
  | _ => none }
def FnExactScaleCurveWrongFalsely : Prop := fnExactScaleCurveRow.holds Try.pinned (OpenSpec.ofChange fnExactScaleCurveWrong)

/-- 'laws.FnExactGradeOf': WHATEVER THE INPUT: true; the input reads as it did. -/
def fnExactGradeOfSpec : ChangeSpec := { name := "fnExactGradeOf", fn := fun _ => fun
  | [d1, d2, d3, d4, d5] => { results := [.lit (.bool true)], args := [d1, d2, d3, d4, d5] }
  | _ => none }
def fnExactGradeOfRow : OpenClaim := { program := "ytdkkdohbmpjfdaa", sum := "3b53dacbcbdb6cf9e7fd48902e4ad3ae7641353acce651440b584f684674afdb", func := "loop.example/g01212/laws.FnExactGradeOf", spec := "fnExactGradeOf", apart := false }
def FnExactGradeOfSaid : Prop := fnExactGradeOfRow.holds Try.pinned (OpenSpec.ofChange fnExactGradeOfSpec)

/-- ITS FALSE NEIGHBOUR: 'it returns false'. Refute it at one input. -/
def fnExactGradeOfWrong : ChangeSpec := { name := "fnExactGradeOf", fn := fun _ => fun
  | [d1, d2, d3, d4, d5] => { results := [.lit (.bool false)], args := [d1, d2, d3, d4, d5] }
  | _ => none }
def FnExactGradeOfWrongFalsely : Prop := fnExactGradeOfRow.holds Try.pinned (OpenSpec.ofChange fnExactGradeOfWrong)

/- THE SECOND FORM. 'bulk': how many values and letters a reading holds, each counted each time it is reached (what is shared counts as often as it is met; a slice's spare places count too). A statement '..UptoSaid' is the law's where the arguments, and the package variables that the reading takes, are together of bulk at most 1048576: NARROWER than '..Said'. Prove '..Said' where nothing that the law and all that it calls make is longer than what came in: it says more and counts as full. Else prove '..UptoSaid'. A law counts once. -/
mutual
def uptoBulk {H : Type} : DataW H → Nat
  | .lit (.string bytes) => bytes.length + 1
  | .lit _ => 1
  | .nil => 1
  | .ptr d => uptoBulk d + 1
  | .slice elems spare => uptoBulkAll elems + uptoBulkAll spare + 1
  | .agg parts => uptoBulkAll parts + 1
  | .iface _ d => uptoBulk d + 1
  | .map entries => uptoBulkEntries entries + 1
  | .held _ => 1
def uptoBulkAll {H : Type} : List (DataW H) → Nat
  | [] => 0
  | d :: r => uptoBulk d + uptoBulkAll r
def uptoBulkEntries {H : Type} : List (Lit × DataW H) → Nat
  | [] => 0
  | x :: r => uptoBulkEntry x + uptoBulkEntries r
def uptoBulkEntry {H : Type} : Lit × DataW H → Nat
  | (.string bytes, d) => bytes.length + uptoBulk d + 1
  | (_, d) => uptoBulk d + 1
 end
def uptoSmall : (H : Type) → List (DataW H) → Bool := fun _ ds => decide (uptoBulkAll ds ≤ 1048576)
def OpenSpec.upto (s : _root_.Go.ChangeSpec) : _root_.Go.OpenSpec := { _root_.Go.OpenSpec.ofChange s with cond := some uptoSmall }

/-- 'laws.FnExactValidFuse', WHERE WHAT IT READS IS OF BULK AT MOST 1048576: true; the input reads as it did. -/
def fnExactValidFuseUptoRow : OpenClaim := { program := "ytdkkdohbmpjfdaa", sum := "3b53dacbcbdb6cf9e7fd48902e4ad3ae7641353acce651440b584f684674afdb", func := "loop.example/g01212/laws.FnExactValidFuse", spec := "fnExactValidFuse", unfollowed := true, recurses := true, apart := false, narrowed := true }
def FnExactValidFuseUptoSaid : Prop := fnExactValidFuseUptoRow.holds Try.pinned (OpenSpec.upto fnExactValidFuseSpec)

/-- 'laws.FnFuses', WHERE WHAT IT READS IS OF BULK AT MOST 1048576: true; the input reads as it did. -/
def fnFusesUptoRow : OpenClaim := { program := "ytdkkdohbmpjfdaa", sum := "3b53dacbcbdb6cf9e7fd48902e4ad3ae7641353acce651440b584f684674afdb", func := "loop.example/g01212/laws.FnFuses", spec := "fnFuses", unfollowed := true, recurses := true, apart := false, narrowed := true }
def FnFusesUptoSaid : Prop := fnFusesUptoRow.holds Try.pinned (OpenSpec.upto fnFusesSpec)

/-- 'laws.FnExactHeatFuse', WHERE WHAT IT READS IS OF BULK AT MOST 1048576: true; the input reads as it did. -/
def fnExactHeatFuseUptoRow : OpenClaim := { program := "ytdkkdohbmpjfdaa", sum := "3b53dacbcbdb6cf9e7fd48902e4ad3ae7641353acce651440b584f684674afdb", func := "loop.example/g01212/laws.FnExactHeatFuse", spec := "fnExactHeatFuse", unfollowed := true, recurses := true, apart := false, narrowed := true }
def FnExactHeatFuseUptoSaid : Prop := fnExactHeatFuseUptoRow.holds Try.pinned (OpenSpec.upto fnExactHeatFuseSpec)

/-- 'laws.FnExactRunFuse', WHERE WHAT IT READS IS OF BULK AT MOST 1048576: true; the input reads as it did. -/
def fnExactRunFuseUptoRow : OpenClaim := { program := "ytdkkdohbmpjfdaa", sum := "3b53dacbcbdb6cf9e7fd48902e4ad3ae7641353acce651440b584f684674afdb", func := "loop.example/g01212/laws.FnExactRunFuse", spec := "fnExactRunFuse", unfollowed := true, recurses := true, apart := false, narrowed := true }
def FnExactRunFuseUptoSaid : Prop := fnExactRunFuseUptoRow.holds Try.pinned (OpenSpec.upto fnExactRunFuseSpec)

/-- 'laws.FnExactRatiosOf', WHERE WHAT IT READS IS OF BULK AT MOST 1048576: true; the input reads as it did. -/
def fnExactRatiosOfUptoRow : OpenClaim := { program := "ytdkkdohbmpjfdaa", sum := "3b53dacbcbdb6cf9e7fd48902e4ad3ae7641353acce651440b584f684674afdb", func := "loop.example/g01212/laws.FnExactRatiosOf", spec := "fnExactRatiosOf", apart := false, narrowed := true }
def FnExactRatiosOfUptoSaid : Prop := fnExactRatiosOfUptoRow.holds Try.pinned (OpenSpec.upto fnExactRatiosOfSpec)

/-- 'laws.FnExactValidCurve', WHERE WHAT IT READS IS OF BULK AT MOST 1048576: true; the input reads as it did. -/
def fnExactValidCurveUptoRow : OpenClaim := { program := "ytdkkdohbmpjfdaa", sum := "3b53dacbcbdb6cf9e7fd48902e4ad3ae7641353acce651440b584f684674afdb", func := "loop.example/g01212/laws.FnExactValidCurve", spec := "fnExactValidCurve", apart := false, narrowed := true }
def FnExactValidCurveUptoSaid : Prop := fnExactValidCurveUptoRow.holds Try.pinned (OpenSpec.upto fnExactValidCurveSpec)

/-- 'laws.FnExactSameCurve', WHERE WHAT IT READS IS OF BULK AT MOST 1048576: true; the input reads as it did. -/
def fnExactSameCurveUptoRow : OpenClaim := { program := "ytdkkdohbmpjfdaa", sum := "3b53dacbcbdb6cf9e7fd48902e4ad3ae7641353acce651440b584f684674afdb", func := "loop.example/g01212/laws.FnExactSameCurve", spec := "fnExactSameCurve", inPlace := ["math.Float32bits"], unfollowed := true, recurses := true, apart := false, narrowed := true }
def FnExactSameCurveUptoSaid : Prop := fnExactSameCurveUptoRow.holds Try.pinned (OpenSpec.upto fnExactSameCurveSpec)

/-- 'laws.FnExactTimeAt', WHERE WHAT IT READS IS OF BULK AT MOST 1048576: true; the input reads as it did. -/
def fnExactTimeAtUptoRow : OpenClaim := { program := "ytdkkdohbmpjfdaa", sum := "3b53dacbcbdb6cf9e7fd48902e4ad3ae7641353acce651440b584f684674afdb", func := "loop.example/g01212/laws.FnExactTimeAt", spec := "fnExactTimeAt", apart := false, narrowed := true }
def FnExactTimeAtUptoSaid : Prop := fnExactTimeAtUptoRow.holds Try.pinned (OpenSpec.upto fnExactTimeAtSpec)

/-- 'laws.FnExactMarginAt', WHERE WHAT IT READS IS OF BULK AT MOST 1048576: true; the input reads as it did. -/
def fnExactMarginAtUptoRow : OpenClaim := { program := "ytdkkdohbmpjfdaa", sum := "3b53dacbcbdb6cf9e7fd48902e4ad3ae7641353acce651440b584f684674afdb", func := "loop.example/g01212/laws.FnExactMarginAt", spec := "fnExactMarginAt", apart := false, narrowed := true }
def FnExactMarginAtUptoSaid : Prop := fnExactMarginAtUptoRow.holds Try.pinned (OpenSpec.upto fnExactMarginAtSpec)

/-- 'laws.FnExactScaleCurve', WHERE WHAT IT READS IS OF BULK AT MOST 1048576: true; the input reads as it did. -/
def fnExactScaleCurveUptoRow : OpenClaim := { program := "ytdkkdohbmpjfdaa", sum := "3b53dacbcbdb6cf9e7fd48902e4ad3ae7641353acce651440b584f684674afdb", func := "loop.example/g01212/laws.FnExactScaleCurve", spec := "fnExactScaleCurve", apart := false, narrowed := true }
def FnExactScaleCurveUptoSaid : Prop := fnExactScaleCurveUptoRow.holds Try.pinned (OpenSpec.upto fnExactScaleCurveSpec)

/-- 'laws.FnExactGradeOf', WHERE WHAT IT READS IS OF BULK AT MOST 1048576: true; the input reads as it did. -/
def fnExactGradeOfUptoRow : OpenClaim := { program := "ytdkkdohbmpjfdaa", sum := "3b53dacbcbdb6cf9e7fd48902e4ad3ae7641353acce651440b584f684674afdb", func := "loop.example/g01212/laws.FnExactGradeOf", spec := "fnExactGradeOf", apart := false, narrowed := true }
def FnExactGradeOfUptoSaid : Prop := fnExactGradeOfUptoRow.holds Try.pinned (OpenSpec.upto fnExactGradeOfSpec)

end Rows
end Go.Proofs.Ytdkkdohbmpjfdaa
