/-
  No cell of these rows narrows 'for every input' (looked for: loops, veiled, ifaces, maps, wideKeys, modest, calm, conditions, laid).
  DERIVED. THE GIVEN ROWS OF THIS SEAT. 8 by the template 'for every input the law returns true; each argument reads behind the call as it read before'; 0 by the template 'total and deterministic' (their statements: YtebhefbpkcpnjaaTotals.lean).
  GIVEN WITH THE SEED: the statements are not yours to turn. If you find one false, say at which input.
  Laid BY PROGRAM, IN A SANDBOX (cutbox-rows.mjs): the forced cells as the released guide's own fill.sh prints them over the translation 8a1f2d150564d889… (all of the seat's roots in one cut). By AI agents, Wed Nov 11 2026. No macro, syntax, notation, axiom, sorry.
-/
import Derived.Test.YtebhefbpkcpnjaaChecked
import GoSem.Claim
import GoSem.ClaimJoined
import GoSem.ClaimMapViews
import Derived.JoinedTies
import Derived.KernelRfl
namespace Go.Proofs.Ytebhefbpkcpnjaa
/- THE CELL 'sum', in the pinned program and in every row, IS THE sha256 OF THE DUMP (.gsa) THAT YtebhefbpkcpnjaaProg.lean LOADS. Nothing in Lean hashes anything: it is a label: what it is worth is what the hold of that sum in a sandbox is worth. -/
noncomputable def Try.pinned : Pinned := { name := "ytebhefbpkcpnjaa", sum := "8a1f2d150564d889c269352b3d9b73d91c664a5ec4383be935aecda8dcaf14bd", checked := Try.checked }
namespace Rows
def none {H : Type} : Left H := { results := [], args := [] }

/-- 'laws.FnExactGustFactor': WHATEVER THE INPUT: true; the input reads as it did. -/
def fnExactGustFactorSpec : ChangeSpec := { name := "fnExactGustFactor", fn := fun _ => fun
  | [d1, d2] => { results := [.lit (.bool true)], args := [d1, d2] }
  | _ => none }
def fnExactGustFactorRow : OpenClaim := { program := "ytebhefbpkcpnjaa", sum := "8a1f2d150564d889c269352b3d9b73d91c664a5ec4383be935aecda8dcaf14bd", func := "loop.example/g01256/laws.FnExactGustFactor", spec := "fnExactGustFactor", unfollowed := true, recurses := true, apart := false }
def FnExactGustFactorSaid : Prop := fnExactGustFactorRow.holds Try.pinned (OpenSpec.ofChange fnExactGustFactorSpec)

/-- ITS FALSE NEIGHBOUR: 'it returns false'. Refute it at one input. -/
def fnExactGustFactorWrong : ChangeSpec := { name := "fnExactGustFactor", fn := fun _ => fun
  | [d1, d2] => { results := [.lit (.bool false)], args := [d1, d2] }
  | _ => none }
def FnExactGustFactorWrongFalsely : Prop := fnExactGustFactorRow.holds Try.pinned (OpenSpec.ofChange fnExactGustFactorWrong)

/-- 'laws.FnExactMixRoses': WHATEVER THE INPUT: true; the input reads as it did. -/
def fnExactMixRosesSpec : ChangeSpec := { name := "fnExactMixRoses", fn := fun _ => fun
  | [d1, d2, d3] => { results := [.lit (.bool true)], args := [d1, d2, d3] }
  | _ => none }
def fnExactMixRosesRow : OpenClaim := { program := "ytebhefbpkcpnjaa", sum := "8a1f2d150564d889c269352b3d9b73d91c664a5ec4383be935aecda8dcaf14bd", func := "loop.example/g01256/laws.FnExactMixRoses", spec := "fnExactMixRoses", unfollowed := true, recurses := true, apart := false }
def FnExactMixRosesSaid : Prop := fnExactMixRosesRow.holds Try.pinned (OpenSpec.ofChange fnExactMixRosesSpec)

/-- ITS FALSE NEIGHBOUR: 'it returns false'. Refute it at one input. -/
def fnExactMixRosesWrong : ChangeSpec := { name := "fnExactMixRoses", fn := fun _ => fun
  | [d1, d2, d3] => { results := [.lit (.bool false)], args := [d1, d2, d3] }
  | _ => none }
def FnExactMixRosesWrongFalsely : Prop := fnExactMixRosesRow.holds Try.pinned (OpenSpec.ofChange fnExactMixRosesWrong)

/-- 'laws.FnExactEvenRose': WHATEVER THE INPUT: true; the input reads as it did. -/
def fnExactEvenRoseSpec : ChangeSpec := { name := "fnExactEvenRose", fn := fun _ => fun
  | [d1, d2] => { results := [.lit (.bool true)], args := [d1, d2] }
  | _ => none }
def fnExactEvenRoseRow : OpenClaim := { program := "ytebhefbpkcpnjaa", sum := "8a1f2d150564d889c269352b3d9b73d91c664a5ec4383be935aecda8dcaf14bd", func := "loop.example/g01256/laws.FnExactEvenRose", spec := "fnExactEvenRose", unfollowed := true, recurses := true, apart := false }
def FnExactEvenRoseSaid : Prop := fnExactEvenRoseRow.holds Try.pinned (OpenSpec.ofChange fnExactEvenRoseSpec)

/-- ITS FALSE NEIGHBOUR: 'it returns false'. Refute it at one input. -/
def fnExactEvenRoseWrong : ChangeSpec := { name := "fnExactEvenRose", fn := fun _ => fun
  | [d1, d2] => { results := [.lit (.bool false)], args := [d1, d2] }
  | _ => none }
def FnExactEvenRoseWrongFalsely : Prop := fnExactEvenRoseRow.holds Try.pinned (OpenSpec.ofChange fnExactEvenRoseWrong)

/-- 'laws.FnExactNormRose': WHATEVER THE INPUT: true; the input reads as it did. -/
def fnExactNormRoseSpec : ChangeSpec := { name := "fnExactNormRose", fn := fun _ => fun
  | [d] => { results := [.lit (.bool true)], args := [d] }
  | _ => none }
def fnExactNormRoseRow : OpenClaim := { program := "ytebhefbpkcpnjaa", sum := "8a1f2d150564d889c269352b3d9b73d91c664a5ec4383be935aecda8dcaf14bd", func := "loop.example/g01256/laws.FnExactNormRose", spec := "fnExactNormRose", unfollowed := true, recurses := true, apart := false }
def FnExactNormRoseSaid : Prop := fnExactNormRoseRow.holds Try.pinned (OpenSpec.ofChange fnExactNormRoseSpec)

/-- ITS FALSE NEIGHBOUR: 'it returns false'. Refute it at one input. -/
def fnExactNormRoseWrong : ChangeSpec := { name := "fnExactNormRose", fn := fun _ => fun
  | [d] => { results := [.lit (.bool false)], args := [d] }
  | _ => none }
def FnExactNormRoseWrongFalsely : Prop := fnExactNormRoseRow.holds Try.pinned (OpenSpec.ofChange fnExactNormRoseWrong)

/-- 'laws.FnExactSpreadOfWinds': WHATEVER THE INPUT: true; the input reads as it did. -/
def fnExactSpreadOfWindsSpec : ChangeSpec := { name := "fnExactSpreadOfWinds", fn := fun _ => fun
  | [d] => { results := [.lit (.bool true)], args := [d] }
  | _ => none }
def fnExactSpreadOfWindsRow : OpenClaim := { program := "ytebhefbpkcpnjaa", sum := "8a1f2d150564d889c269352b3d9b73d91c664a5ec4383be935aecda8dcaf14bd", func := "loop.example/g01256/laws.FnExactSpreadOfWinds", spec := "fnExactSpreadOfWinds", inPlace := ["math.sqrt"], unfollowed := true, recurses := true, apart := false }
def FnExactSpreadOfWindsSaid : Prop := fnExactSpreadOfWindsRow.holds Try.pinned (OpenSpec.ofChange fnExactSpreadOfWindsSpec)

/-- ITS FALSE NEIGHBOUR: 'it returns false'. Refute it at one input. -/
def fnExactSpreadOfWindsWrong : ChangeSpec := { name := "fnExactSpreadOfWinds", fn := fun _ => fun
  | [d] => { results := [.lit (.bool false)], args := [d] }
  | _ => none }
def FnExactSpreadOfWindsWrongFalsely : Prop := fnExactSpreadOfWindsRow.holds Try.pinned (OpenSpec.ofChange fnExactSpreadOfWindsWrong)

/-- 'laws.FnExactDiscPower': WHATEVER THE INPUT: true; the input reads as it did. -/
def fnExactDiscPowerSpec : ChangeSpec := { name := "fnExactDiscPower", fn := fun _ => fun
  | [d1, d2, d3, d4] => { results := [.lit (.bool true)], args := [d1, d2, d3, d4] }
  | _ => none }
def fnExactDiscPowerRow : OpenClaim := { program := "ytebhefbpkcpnjaa", sum := "8a1f2d150564d889c269352b3d9b73d91c664a5ec4383be935aecda8dcaf14bd", func := "loop.example/g01256/laws.FnExactDiscPower", spec := "fnExactDiscPower", inPlace := ["math.sqrt"], unfollowed := true, recurses := true, apart := false }
def FnExactDiscPowerSaid : Prop := fnExactDiscPowerRow.holds Try.pinned (OpenSpec.ofChange fnExactDiscPowerSpec)

/-- ITS FALSE NEIGHBOUR: 'it returns false'. Refute it at one input. -/
def fnExactDiscPowerWrong : ChangeSpec := { name := "fnExactDiscPower", fn := fun _ => fun
  | [d1, d2, d3, d4] => { results := [.lit (.bool false)], args := [d1, d2, d3, d4] }
  | _ => none }
def FnExactDiscPowerWrongFalsely : Prop := fnExactDiscPowerRow.holds Try.pinned (OpenSpec.ofChange fnExactDiscPowerWrong)

/-- 'laws.FnExactBinsOfWinds': WHATEVER THE INPUT: true; the input reads as it did. -/
def fnExactBinsOfWindsSpec : ChangeSpec := { name := "fnExactBinsOfWinds", fn := fun _ => fun
  | [d1, d2, d3] => { results := [.lit (.bool true)], args := [d1, d2, d3] }
  | _ => none }
def fnExactBinsOfWindsRow : OpenClaim := { program := "ytebhefbpkcpnjaa", sum := "8a1f2d150564d889c269352b3d9b73d91c664a5ec4383be935aecda8dcaf14bd", func := "loop.example/g01256/laws.FnExactBinsOfWinds", spec := "fnExactBinsOfWinds", inPlace := ["math.archFloor", "math.Float64bits", "math.Float64frombits", "math.archTrunc"], unfollowed := true, recurses := true, apart := false }
def FnExactBinsOfWindsSaid : Prop := fnExactBinsOfWindsRow.holds Try.pinned (OpenSpec.ofChange fnExactBinsOfWindsSpec)

/-- ITS FALSE NEIGHBOUR: 'it returns false'. Refute it at one input. -/
def fnExactBinsOfWindsWrong : ChangeSpec := { name := "fnExactBinsOfWinds", fn := fun _ => fun
  | [d1, d2, d3] => { results := [.lit (.bool false)], args := [d1, d2, d3] }
  | _ => none }
def FnExactBinsOfWindsWrongFalsely : Prop := fnExactBinsOfWindsRow.holds Try.pinned (OpenSpec.ofChange fnExactBinsOfWindsWrong)

/-- 'laws.FnExactRoseOf': WHATEVER THE INPUT: true; the input reads as it did. -/
def fnExactRoseOfSpec : ChangeSpec := { name := "fnExactRoseOf", fn := fun _ => fun
  | [d1, d2, d3] => { results := [.lit (.bool true)], args := [d1, d2, d3] }
  | _ => none }
def fnExactRoseOfRow : OpenClaim := { program := "ytebhefbpkcpnjaa", sum := "8a1f2d150564d889c269352b3d9b73d91c664a5ec4383be935aecda8dcaf14bd", func := "loop.example/g01256/laws.FnExactRoseOf", spec := "fnExactRoseOf", inPlace := ["math.archFloor", "math.Float64bits", "math.Float64frombits", "math.archTrunc"], unfollowed := true, recurses := true, apart := false }
def FnExactRoseOfSaid : Prop := fnExactRoseOfRow.holds Try.pinned (OpenSpec.ofChange fnExactRoseOfSpec)

/-- ITS FALSE NEIGHBOUR: 'it returns false'. Refute it at one input. -/
def fnExactRoseOfWrong : ChangeSpec := { name := "fnExactRoseOf", fn := fun _ => fun
  | [d1, d2, d3] => { results := [.lit (.bool false)], args := [d1, d2, d3] }
  | _ => none }
def FnExactRoseOfWrongFalsely : Prop := fnExactRoseOfRow.holds Try.pinned (OpenSpec.ofChange fnExactRoseOfWrong)

/- THE SECOND FORM. 'bulk': how many values and letters a reading holds, each counted each time it is reached (what is shared counts as often as it is met; a slice's spare places count too). A statement '..UptoSaid' is the law's where the arguments, and the package variables that the reading takes, are together of bulk at most 1048576: NARROWER than '..Said'. Prove '..Said' where nothing that the law and all that it calls make is longer than what came in: it says more and counts as full. Else prove '..UptoSaid'. A law counts once. -/
mutual
def uptoBulk {H : Type} : DataW H → Nat
  | .lit (.string bytes) => bytes.length + 1
  | .lit _ => 1
  | .nil => 1
  | .ptr d => uptoBulk d + 1
  | .slice elems spare => uptoBulkAll elems + uptoBulkAll spare + 1
  | .agg parts => uptoBulkAll parts + 1
  | .iface _ d => uptoBulk d + 1
  | .map entries => uptoBulkEntries entries + 1
  | .held _ => 1
def uptoBulkAll {H : Type} : List (DataW H) → Nat
  | [] => 0
  | d :: r => uptoBulk d + uptoBulkAll r
def uptoBulkEntries {H : Type} : List (Lit × DataW H) → Nat
  | [] => 0
  | x :: r => uptoBulkEntry x + uptoBulkEntries r
def uptoBulkEntry {H : Type} : Lit × DataW H → Nat
  | (.string bytes, d) => bytes.length + uptoBulk d + 1
  | (_, d) => uptoBulk d + 1
 end
def uptoSmall : (H : Type) → List (DataW H) → Bool := fun _ ds => decide (uptoBulkAll ds ≤ 1048576)
def OpenSpec.upto (s : _root_.Go.ChangeSpec) : _root_.Go.OpenSpec := { _root_.Go.OpenSpec.ofChange s with cond := some uptoSmall }

/-- 'laws.FnExactGustFactor', WHERE WHAT IT READS IS OF BULK AT MOST 1048576: true; the input reads as it did. -/
def fnExactGustFactorUptoRow : OpenClaim := { program := "ytebhefbpkcpnjaa", sum := "8a1f2d150564d889c269352b3d9b73d91c664a5ec4383be935aecda8dcaf14bd", func := "loop.example/g01256/laws.FnExactGustFactor", spec := "fnExactGustFactor", unfollowed := true, recurses := true, apart := false, narrowed := true }
def FnExactGustFactorUptoSaid : Prop := fnExactGustFactorUptoRow.holds Try.pinned (OpenSpec.upto fnExactGustFactorSpec)

/-- 'laws.FnExactMixRoses', WHERE WHAT IT READS IS OF BULK AT MOST 1048576: true; the input reads as it did. -/
def fnExactMixRosesUptoRow : OpenClaim := { program := "ytebhefbpkcpnjaa", sum := "8a1f2d150564d889c269352b3d9b73d91c664a5ec4383be935aecda8dcaf14bd", func := "loop.example/g01256/laws.FnExactMixRoses", spec := "fnExactMixRoses", unfollowed := true, recurses := true, apart := false, narrowed := true }
def FnExactMixRosesUptoSaid : Prop := fnExactMixRosesUptoRow.holds Try.pinned (OpenSpec.upto fnExactMixRosesSpec)

/-- 'laws.FnExactEvenRose', WHERE WHAT IT READS IS OF BULK AT MOST 1048576: true; the input reads as it did. -/
def fnExactEvenRoseUptoRow : OpenClaim := { program := "ytebhefbpkcpnjaa", sum := "8a1f2d150564d889c269352b3d9b73d91c664a5ec4383be935aecda8dcaf14bd", func := "loop.example/g01256/laws.FnExactEvenRose", spec := "fnExactEvenRose", unfollowed := true, recurses := true, apart := false, narrowed := true }
def FnExactEvenRoseUptoSaid : Prop := fnExactEvenRoseUptoRow.holds Try.pinned (OpenSpec.upto fnExactEvenRoseSpec)

/-- 'laws.FnExactNormRose', WHERE WHAT IT READS IS OF BULK AT MOST 1048576: true; the input reads as it did. -/
def fnExactNormRoseUptoRow : OpenClaim := { program := "ytebhefbpkcpnjaa", sum := "8a1f2d150564d889c269352b3d9b73d91c664a5ec4383be935aecda8dcaf14bd", func := "loop.example/g01256/laws.FnExactNormRose", spec := "fnExactNormRose", unfollowed := true, recurses := true, apart := false, narrowed := true }
def FnExactNormRoseUptoSaid : Prop := fnExactNormRoseUptoRow.holds Try.pinned (OpenSpec.upto fnExactNormRoseSpec)

/-- 'laws.FnExactSpreadOfWinds', WHERE WHAT IT READS IS OF BULK AT MOST 1048576: true; the input reads as it did. -/
def fnExactSpreadOfWindsUptoRow : OpenClaim := { program := "ytebhefbpkcpnjaa", sum := "8a1f2d150564d889c269352b3d9b73d91c664a5ec4383be935aecda8dcaf14bd", func := "loop.example/g01256/laws.FnExactSpreadOfWinds", spec := "fnExactSpreadOfWinds", inPlace := ["math.sqrt"], unfollowed := true, recurses := true, apart := false, narrowed := true }
def FnExactSpreadOfWindsUptoSaid : Prop := fnExactSpreadOfWindsUptoRow.holds Try.pinned (OpenSpec.upto fnExactSpreadOfWindsSpec)

/-- 'laws.FnExactDiscPower', WHERE WHAT IT READS IS OF BULK AT MOST 1048576: true; the input reads as it did. -/
def fnExactDiscPowerUptoRow : OpenClaim := { program := "ytebhefbpkcpnjaa", sum := "8a1f2d150564d889c269352b3d9b73d91c664a5ec4383be935aecda8dcaf14bd", func := "loop.example/g01256/laws.FnExactDiscPower", spec := "fnExactDiscPower", inPlace := ["math.sqrt"], unfollowed := true, recurses := true, apart := false, narrowed := true }
def FnExactDiscPowerUptoSaid : Prop := fnExactDiscPowerUptoRow.holds Try.pinned (OpenSpec.upto fnExactDiscPowerSpec)

/-- 'laws.FnExactBinsOfWinds', WHERE WHAT IT READS IS OF BULK AT MOST 1048576: true; the input reads as it did. -/
def fnExactBinsOfWindsUptoRow : OpenClaim := { program := "ytebhefbpkcpnjaa", sum := "8a1f2d150564d889c269352b3d9b73d91c664a5ec4383be935aecda8dcaf14bd", func := "loop.example/g01256/laws.FnExactBinsOfWinds", spec := "fnExactBinsOfWinds", inPlace := ["math.archFloor", "math.Float64bits", "math.Float64frombits", "math.archTrunc"], unfollowed := true, recurses := true, apart := false, narrowed := true }
def FnExactBinsOfWindsUptoSaid : Prop := fnExactBinsOfWindsUptoRow.holds Try.pinned (OpenSpec.upto fnExactBinsOfWindsSpec)

/-- 'laws.FnExactRoseOf', WHERE WHAT IT READS IS OF BULK AT MOST 1048576: true; the input reads as it did. -/
def fnExactRoseOfUptoRow : OpenClaim := { program := "ytebhefbpkcpnjaa", sum := "8a1f2d150564d889c269352b3d9b73d91c664a5ec4383be935aecda8dcaf14bd", func := "loop.example/g01256/laws.FnExactRoseOf", spec := "fnExactRoseOf", inPlace := ["math.archFloor", "math.Float64bits", "math.Float64frombits", "math.archTrunc"], unfollowed := true, recurses := true, apart := false, narrowed := true }
def FnExactRoseOfUptoSaid : Prop := fnExactRoseOfUptoRow.holds Try.pinned (OpenSpec.upto fnExactRoseOfSpec)

end Rows
end Go.Proofs.Ytebhefbpkcpnjaa
