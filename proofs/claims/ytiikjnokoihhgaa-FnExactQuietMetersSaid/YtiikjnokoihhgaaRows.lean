/-
  No cell of these rows narrows 'for every input' (looked for: loops, veiled, ifaces, maps, wideKeys, modest, calm, conditions, laid).
  DERIVED. THE GIVEN ROWS OF THIS SEAT. 7 by the template 'for every input the law returns true; each argument reads behind the call as it read before'; 0 by the template 'total and deterministic' (their statements: YtiikjnokoihhgaaTotals.lean).
  GIVEN WITH THE SEED: the statements are not yours to turn. If you find one false, say at which input.
  Laid BY PROGRAM, IN A SANDBOX (cutbox-rows.mjs): the forced cells as the released guide's own fill.sh prints them over the translation b16b2422cfb2f30f… (all of the seat's roots in one cut). By AI agents, Wed Nov 11 2026. No macro, syntax, notation, axiom, sorry.
-/
import Derived.Test.YtiikjnokoihhgaaChecked
import GoSem.Claim
import GoSem.ClaimJoined
import GoSem.ClaimMapViews
import Derived.JoinedTies
import Derived.KernelRfl
namespace Go.Proofs.Ytiikjnokoihhgaa
/- THE CELL 'sum', in the pinned program and in every row, IS THE sha256 OF THE DUMP (.gsa) THAT YtiikjnokoihhgaaProg.lean LOADS. Nothing in Lean hashes anything: it is a label: what it is worth is what the hold of that sum in a sandbox is worth. -/
noncomputable def Try.pinned : Pinned := { name := "ytiikjnokoihhgaa", sum := "b16b2422cfb2f30f7a2c85f6b1c54d0014bd828ec8af7d6a72a9adb479323824", checked := Try.checked }
namespace Rows
def none {H : Type} : Left H := { results := [], args := [] }

/-- 'laws.FnExactValidMeter': WHATEVER THE INPUT: true; the input reads as it did. -/
def fnExactValidMeterSpec : ChangeSpec := { name := "fnExactValidMeter", fn := fun _ => fun
  | [d] => { results := [.lit (.bool true)], args := [d] }
  | _ => none }
def fnExactValidMeterRow : OpenClaim := { program := "ytiikjnokoihhgaa", sum := "b16b2422cfb2f30f7a2c85f6b1c54d0014bd828ec8af7d6a72a9adb479323824", func := "loop.example/g01212/laws.FnExactValidMeter", spec := "fnExactValidMeter", unfollowed := true, recurses := true, apart := false }
def FnExactValidMeterSaid : Prop := fnExactValidMeterRow.holds Try.pinned (OpenSpec.ofChange fnExactValidMeterSpec)

/-- ITS FALSE NEIGHBOUR: 'it returns false'. Refute it at one input. -/
def fnExactValidMeterWrong : ChangeSpec := { name := "fnExactValidMeter", fn := fun _ => fun
  | [d] => { results := [.lit (.bool false)], args := [d] }
  | _ => none }
def FnExactValidMeterWrongFalsely : Prop := fnExactValidMeterRow.holds Try.pinned (OpenSpec.ofChange fnExactValidMeterWrong)

/-- 'laws.FnExactUseOf': WHATEVER THE INPUT: true; the input reads as it did. -/
def fnExactUseOfSpec : ChangeSpec := { name := "fnExactUseOf", fn := fun _ => fun
  | [d] => { results := [.lit (.bool true)], args := [d] }
  | _ => none }
def fnExactUseOfRow : OpenClaim := { program := "ytiikjnokoihhgaa", sum := "b16b2422cfb2f30f7a2c85f6b1c54d0014bd828ec8af7d6a72a9adb479323824", func := "loop.example/g01212/laws.FnExactUseOf", spec := "fnExactUseOf", unfollowed := true, recurses := true, apart := false }
def FnExactUseOfSaid : Prop := fnExactUseOfRow.holds Try.pinned (OpenSpec.ofChange fnExactUseOfSpec)

/-- ITS FALSE NEIGHBOUR: 'it returns false'. Refute it at one input. -/
def fnExactUseOfWrong : ChangeSpec := { name := "fnExactUseOf", fn := fun _ => fun
  | [d] => { results := [.lit (.bool false)], args := [d] }
  | _ => none }
def FnExactUseOfWrongFalsely : Prop := fnExactUseOfRow.holds Try.pinned (OpenSpec.ofChange fnExactUseOfWrong)

/-- 'laws.FnExactUsesOf': WHATEVER THE INPUT: true; the input reads as it did. -/
def fnExactUsesOfSpec : ChangeSpec := { name := "fnExactUsesOf", fn := fun _ => fun
  | [d] => { results := [.lit (.bool true)], args := [d] }
  | _ => none }
def fnExactUsesOfRow : OpenClaim := { program := "ytiikjnokoihhgaa", sum := "b16b2422cfb2f30f7a2c85f6b1c54d0014bd828ec8af7d6a72a9adb479323824", func := "loop.example/g01212/laws.FnExactUsesOf", spec := "fnExactUsesOf", unfollowed := true, recurses := true, apart := false }
def FnExactUsesOfSaid : Prop := fnExactUsesOfRow.holds Try.pinned (OpenSpec.ofChange fnExactUsesOfSpec)

/-- ITS FALSE NEIGHBOUR: 'it returns false'. Refute it at one input. -/
def fnExactUsesOfWrong : ChangeSpec := { name := "fnExactUsesOf", fn := fun _ => fun
  | [d] => { results := [.lit (.bool false)], args := [d] }
  | _ => none }
def FnExactUsesOfWrongFalsely : Prop := fnExactUsesOfRow.holds Try.pinned (OpenSpec.ofChange fnExactUsesOfWrong)

/-- 'laws.FnExactBandsOf': WHATEVER THE INPUT: true; the input reads as it did. -/
def fnExactBandsOfSpec : ChangeSpec := { name := "fnExactBandsOf", fn := fun _ => fun
  | [d1, d2] => { results := [.lit (.bool true)], args := [d1, d2] }
  | _ => none }
def fnExactBandsOfRow : OpenClaim := { program := "ytiikjnokoihhgaa", sum := "b16b2422cfb2f30f7a2c85f6b1c54d0014bd828ec8af7d6a72a9adb479323824", func := "loop.example/g01212/laws.FnExactBandsOf", spec := "fnExactBandsOf", unfollowed := true, recurses := true, apart := false }
def FnExactBandsOfSaid : Prop := fnExactBandsOfRow.holds Try.pinned (OpenSpec.ofChange fnExactBandsOfSpec)

/-- ITS FALSE NEIGHBOUR: 'it returns false'. Refute it at one input. -/
def fnExactBandsOfWrong : ChangeSpec := { name := "fnExactBandsOf", fn := fun _ => fun
  | [d1, d2] => { results := [.lit (.bool false)], args := [d1, d2] }
  | _ => none }
def FnExactBandsOfWrongFalsely : Prop := fnExactBandsOfRow.holds Try.pinned (OpenSpec.ofChange fnExactBandsOfWrong)

/-- 'laws.FnExactLoadFactor': WHATEVER THE INPUT: true; the input reads as it did. -/
def fnExactLoadFactorSpec : ChangeSpec := { name := "fnExactLoadFactor", fn := fun _ => fun
  | [d] => { results := [.lit (.bool true)], args := [d] }
  | _ => none }
def fnExactLoadFactorRow : OpenClaim := { program := "ytiikjnokoihhgaa", sum := "b16b2422cfb2f30f7a2c85f6b1c54d0014bd828ec8af7d6a72a9adb479323824", func := "loop.example/g01212/laws.FnExactLoadFactor", spec := "fnExactLoadFactor", unfollowed := true, recurses := true, apart := false }
def FnExactLoadFactorSaid : Prop := fnExactLoadFactorRow.holds Try.pinned (OpenSpec.ofChange fnExactLoadFactorSpec)

/-- ITS FALSE NEIGHBOUR: 'it returns false'. Refute it at one input. -/
def fnExactLoadFactorWrong : ChangeSpec := { name := "fnExactLoadFactor", fn := fun _ => fun
  | [d] => { results := [.lit (.bool false)], args := [d] }
  | _ => none }
def FnExactLoadFactorWrongFalsely : Prop := fnExactLoadFactorRow.holds Try.pinned (OpenSpec.ofChange fnExactLoadFactorWrong)

/-- 'laws.FnExactMetersBalance': WHATEVER THE INPUT: true; the input reads as it did. -/
def fnExactMetersBalanceSpec : ChangeSpec := { name := "fnExactMetersBalance", fn := fun _ => fun
  | [d1, d2] => { results := [.lit (.bool true)], args := [d1, d2] }
  | _ => none }
def fnExactMetersBalanceRow : OpenClaim := { program := "ytiikjnokoihhgaa", sum := "b16b2422cfb2f30f7a2c85f6b1c54d0014bd828ec8af7d6a72a9adb479323824", func := "loop.example/g01212/laws.FnExactMetersBalance", spec := "fnExactMetersBalance", unfollowed := true, recurses := true, apart := false }
def FnExactMetersBalanceSaid : Prop := fnExactMetersBalanceRow.holds Try.pinned (OpenSpec.ofChange fnExactMetersBalanceSpec)

/-- ITS FALSE NEIGHBOUR: 'it returns false'. Refute it at one input. -/
def fnExactMetersBalanceWrong : ChangeSpec := { name := "fnExactMetersBalance", fn := fun _ => fun
  | [d1, d2] => { results := [.lit (.bool false)], args := [d1, d2] }
  | _ => none }
def FnExactMetersBalanceWrongFalsely : Prop := fnExactMetersBalanceRow.holds Try.pinned (OpenSpec.ofChange fnExactMetersBalanceWrong)

/-- 'laws.FnExactQuietMeters': WHATEVER THE INPUT: true; the input reads as it did. -/
def fnExactQuietMetersSpec : ChangeSpec := { name := "fnExactQuietMeters", fn := fun _ => fun
  | [d1, d2] => { results := [.lit (.bool true)], args := [d1, d2] }
  | _ => none }
def fnExactQuietMetersRow : OpenClaim := { program := "ytiikjnokoihhgaa", sum := "b16b2422cfb2f30f7a2c85f6b1c54d0014bd828ec8af7d6a72a9adb479323824", func := "loop.example/g01212/laws.FnExactQuietMeters", spec := "fnExactQuietMeters", unfollowed := true, recurses := true, apart := false }
def FnExactQuietMetersSaid : Prop := fnExactQuietMetersRow.holds Try.pinned (OpenSpec.ofChange fnExactQuietMetersSpec)

/-- ITS FALSE NEIGHBOUR: 'it returns false'. Refute it at one input. -/
def fnExactQuietMetersWrong : ChangeSpec := { name := "fnExactQuietMeters", fn := fun _ => fun
  | [d1, d2] => { results := [.lit (.bool false)], args := [d1, d2] }
  | _ => none }
def FnExactQuietMetersWrongFalsely : Prop := fnExactQuietMetersRow.holds Try.pinned (OpenSpec.ofChange fnExactQuietMetersWrong)

/- THE SECOND FORM. 'bulk': how many values and letters a reading holds, each counted each time it is reached (what is shared counts as often as it is met; a slice's spare places count too). A statement '..UptoSaid' is the law's where the arguments, and the package variables that the reading takes, are together of bulk at most 1048576: NARROWER than '..Said'. Prove '..Said' where nothing that the law and all that it calls make is longer than what came in: it says more and counts as full. Else prove '..UptoSaid'. A law counts once. -/
mutual
def uptoBulk {H : Type} : DataW H → Nat
  | .lit (.string bytes) => bytes.length + 1
  | .lit _ => 1
  | .nil => 1
  | .ptr d => uptoBulk d + 1
  | .slice elems spare => uptoBulkAll elems + uptoBulkAll spare + 1
  | .agg parts => uptoBulkAll parts + 1
  | .iface _ d => uptoBulk d + 1
  | .map entries => uptoBulkEntries entries + 1
  | .held _ => 1
def uptoBulkAll {H : Type} : List (DataW H) → Nat
  | [] => 0
  | d :: r => uptoBulk d + uptoBulkAll r
def uptoBulkEntries {H : Type} : List (Lit × DataW H) → Nat
  | [] => 0
  | x :: r => uptoBulkEntry x + uptoBulkEntries r
def uptoBulkEntry {H : Type} : Lit × DataW H → Nat
  | (.string bytes, d) => bytes.length + uptoBulk d + 1
  | (_, d) => uptoBulk d + 1
 end
def uptoSmall : (H : Type) → List (DataW H) → Bool := fun _ ds => decide (uptoBulkAll ds ≤ 1048576)
def OpenSpec.upto (s : _root_.Go.ChangeSpec) : _root_.Go.OpenSpec := { _root_.Go.OpenSpec.ofChange s with cond := some uptoSmall }

/-- 'laws.FnExactValidMeter', WHERE WHAT IT READS IS OF BULK AT MOST 1048576: true; the input reads as it did. -/
def fnExactValidMeterUptoRow : OpenClaim := { program := "ytiikjnokoihhgaa", sum := "b16b2422cfb2f30f7a2c85f6b1c54d0014bd828ec8af7d6a72a9adb479323824", func := "loop.example/g01212/laws.FnExactValidMeter", spec := "fnExactValidMeter", unfollowed := true, recurses := true, apart := false, narrowed := true }
def FnExactValidMeterUptoSaid : Prop := fnExactValidMeterUptoRow.holds Try.pinned (OpenSpec.upto fnExactValidMeterSpec)

/-- 'laws.FnExactUseOf', WHERE WHAT IT READS IS OF BULK AT MOST 1048576: true; the input reads as it did. -/
def fnExactUseOfUptoRow : OpenClaim := { program := "ytiikjnokoihhgaa", sum := "b16b2422cfb2f30f7a2c85f6b1c54d0014bd828ec8af7d6a72a9adb479323824", func := "loop.example/g01212/laws.FnExactUseOf", spec := "fnExactUseOf", unfollowed := true, recurses := true, apart := false, narrowed := true }
def FnExactUseOfUptoSaid : Prop := fnExactUseOfUptoRow.holds Try.pinned (OpenSpec.upto fnExactUseOfSpec)

/-- 'laws.FnExactUsesOf', WHERE WHAT IT READS IS OF BULK AT MOST 1048576: true; the input reads as it did. -/
def fnExactUsesOfUptoRow : OpenClaim := { program := "ytiikjnokoihhgaa", sum := "b16b2422cfb2f30f7a2c85f6b1c54d0014bd828ec8af7d6a72a9adb479323824", func := "loop.example/g01212/laws.FnExactUsesOf", spec := "fnExactUsesOf", unfollowed := true, recurses := true, apart := false, narrowed := true }
def FnExactUsesOfUptoSaid : Prop := fnExactUsesOfUptoRow.holds Try.pinned (OpenSpec.upto fnExactUsesOfSpec)

/-- 'laws.FnExactBandsOf', WHERE WHAT IT READS IS OF BULK AT MOST 1048576: true; the input reads as it did. -/
def fnExactBandsOfUptoRow : OpenClaim := { program := "ytiikjnokoihhgaa", sum := "b16b2422cfb2f30f7a2c85f6b1c54d0014bd828ec8af7d6a72a9adb479323824", func := "loop.example/g01212/laws.FnExactBandsOf", spec := "fnExactBandsOf", unfollowed := true, recurses := true, apart := false, narrowed := true }
def FnExactBandsOfUptoSaid : Prop := fnExactBandsOfUptoRow.holds Try.pinned (OpenSpec.upto fnExactBandsOfSpec)

/-- 'laws.FnExactLoadFactor', WHERE WHAT IT READS IS OF BULK AT MOST 1048576: true; the input reads as it did. -/
def fnExactLoadFactorUptoRow : OpenClaim := { program := "ytiikjnokoihhgaa", sum := "b16b2422cfb2f30f7a2c85f6b1c54d0014bd828ec8af7d6a72a9adb479323824", func := "loop.example/g01212/laws.FnExactLoadFactor", spec := "fnExactLoadFactor", unfollowed := true, recurses := true, apart := false, narrowed := true }
def FnExactLoadFactorUptoSaid : Prop := fnExactLoadFactorUptoRow.holds Try.pinned (OpenSpec.upto fnExactLoadFactorSpec)

/-- 'laws.FnExactMetersBalance', WHERE WHAT IT READS IS OF BULK AT MOST 1048576: true; the input reads as it did. -/
def fnExactMetersBalanceUptoRow : OpenClaim := { program := "ytiikjnokoihhgaa", sum := "b16b2422cfb2f30f7a2c85f6b1c54d0014bd828ec8af7d6a72a9adb479323824", func := "loop.example/g01212/laws.FnExactMetersBalance", spec := "fnExactMetersBalance", unfollowed := true, recurses := true, apart := false, narrowed := true }
def FnExactMetersBalanceUptoSaid : Prop := fnExactMetersBalanceUptoRow.holds Try.pinned (OpenSpec.upto fnExactMetersBalanceSpec)

/-- 'laws.FnExactQuietMeters', WHERE WHAT IT READS IS OF BULK AT MOST 1048576: true; the input reads as it did. -/
def fnExactQuietMetersUptoRow : OpenClaim := { program := "ytiikjnokoihhgaa", sum := "b16b2422cfb2f30f7a2c85f6b1c54d0014bd828ec8af7d6a72a9adb479323824", func := "loop.example/g01212/laws.FnExactQuietMeters", spec := "fnExactQuietMeters", unfollowed := true, recurses := true, apart := false, narrowed := true }
def FnExactQuietMetersUptoSaid : Prop := fnExactQuietMetersUptoRow.holds Try.pinned (OpenSpec.upto fnExactQuietMetersSpec)

end Rows
end Go.Proofs.Ytiikjnokoihhgaa
