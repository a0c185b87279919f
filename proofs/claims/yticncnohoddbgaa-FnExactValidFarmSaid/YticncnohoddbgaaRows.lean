/-
  No cell of these rows narrows 'for every input' (looked for: loops, veiled, ifaces, maps, wideKeys, modest, calm, conditions, laid).
  DERIVED. THE GIVEN ROWS OF THIS SEAT. 10 by the template 'for every input the law returns true; each argument reads behind the call as it read before'; 0 by the template 'total and deterministic' (their statements: YticncnohoddbgaaTotals.lean).
  GIVEN WITH THE SEED: the statements are not yours to turn. If you find one false, say at which input.
  Laid BY PROGRAM, IN A SANDBOX (cutbox-rows.mjs): the forced cells as the released guide's own fill.sh prints them over the translation 5f59a5c75ea18ad7… (all of the seat's roots in one cut). By AI agents, Wed Nov 11 2026. No macro, syntax, notation, axiom, sorry.
-/
import Derived.Test.YticncnohoddbgaaChecked
import GoSem.Claim
import GoSem.ClaimJoined
import GoSem.ClaimMapViews
import Derived.JoinedTies
import Derived.KernelRfl
namespace Go.Proofs.Yticncnohoddbgaa
/- THE CELL 'sum', in the pinned program and in every row, IS THE sha256 OF THE DUMP (.gsa) THAT YticncnohoddbgaaProg.lean LOADS. Nothing in Lean hashes anything: it is a label: what it is worth is what the hold of that sum in a sandbox is worth. -/
noncomputable def Try.pinned : Pinned := { name := "yticncnohoddbgaa", sum := "5f59a5c75ea18ad7e946dfb7dcb52a7fea6f49fcd8992cfa3766a35a0edb6670", checked := Try.checked }
namespace Rows
def none {H : Type} : Left H := { results := [], args := [] }

/-- 'laws.FnExactNewDrive': WHATEVER THE INPUT: true; the input reads as it did. -/
def fnExactNewDriveSpec : ChangeSpec := { name := "fnExactNewDrive", fn := fun _ => fun
  | [d] => { results := [.lit (.bool true)], args := [d] }
  | _ => none }
def fnExactNewDriveRow : OpenClaim := { program := "yticncnohoddbgaa", sum := "5f59a5c75ea18ad7e946dfb7dcb52a7fea6f49fcd8992cfa3766a35a0edb6670", func := "loop.example/g01256/laws.FnExactNewDrive", spec := "fnExactNewDrive", unfollowed := true, recurses := true, apart := false }
def FnExactNewDriveSaid : Prop := fnExactNewDriveRow.holds Try.pinned (OpenSpec.ofChange fnExactNewDriveSpec)

/-- ITS FALSE NEIGHBOUR: 'it returns false'. Refute it at one input. -/
def fnExactNewDriveWrong : ChangeSpec := { name := "fnExactNewDrive", fn := fun _ => fun
  | [d] => { results := [.lit (.bool false)], args := [d] }
  | _ => none }
def FnExactNewDriveWrongFalsely : Prop := fnExactNewDriveRow.holds Try.pinned (OpenSpec.ofChange fnExactNewDriveWrong)

/-- 'laws.FnExactNetTorque': WHATEVER THE INPUT: true; the input reads as it did. -/
def fnExactNetTorqueSpec : ChangeSpec := { name := "fnExactNetTorque", fn := fun _ => fun
  | [d1, d2] => { results := [.lit (.bool true)], args := [d1, d2] }
  | _ => none }
def fnExactNetTorqueRow : OpenClaim := { program := "yticncnohoddbgaa", sum := "5f59a5c75ea18ad7e946dfb7dcb52a7fea6f49fcd8992cfa3766a35a0edb6670", func := "loop.example/g01256/laws.FnExactNetTorque", spec := "fnExactNetTorque", unfollowed := true, recurses := true, apart := false }
def FnExactNetTorqueSaid : Prop := fnExactNetTorqueRow.holds Try.pinned (OpenSpec.ofChange fnExactNetTorqueSpec)

/-- ITS FALSE NEIGHBOUR: 'it returns false'. Refute it at one input. -/
def fnExactNetTorqueWrong : ChangeSpec := { name := "fnExactNetTorque", fn := fun _ => fun
  | [d1, d2] => { results := [.lit (.bool false)], args := [d1, d2] }
  | _ => none }
def FnExactNetTorqueWrongFalsely : Prop := fnExactNetTorqueRow.holds Try.pinned (OpenSpec.ofChange fnExactNetTorqueWrong)

/-- 'laws.FnExactNextState': WHATEVER THE INPUT: true; the input reads as it did. -/
def fnExactNextStateSpec : ChangeSpec := { name := "fnExactNextState", fn := fun _ => fun
  | [d1, d2] => { results := [.lit (.bool true)], args := [d1, d2] }
  | _ => none }
def fnExactNextStateRow : OpenClaim := { program := "yticncnohoddbgaa", sum := "5f59a5c75ea18ad7e946dfb7dcb52a7fea6f49fcd8992cfa3766a35a0edb6670", func := "loop.example/g01256/laws.FnExactNextState", spec := "fnExactNextState", unfollowed := true, recurses := true, apart := false }
def FnExactNextStateSaid : Prop := fnExactNextStateRow.holds Try.pinned (OpenSpec.ofChange fnExactNextStateSpec)

/-- ITS FALSE NEIGHBOUR: 'it returns false'. Refute it at one input. -/
def fnExactNextStateWrong : ChangeSpec := { name := "fnExactNextState", fn := fun _ => fun
  | [d1, d2] => { results := [.lit (.bool false)], args := [d1, d2] }
  | _ => none }
def FnExactNextStateWrongFalsely : Prop := fnExactNextStateRow.holds Try.pinned (OpenSpec.ofChange fnExactNextStateWrong)

/-- 'laws.FnExactHoldDrive': WHATEVER THE INPUT: true; the input reads as it did. -/
def fnExactHoldDriveSpec : ChangeSpec := { name := "fnExactHoldDrive", fn := fun _ => fun
  | [d] => { results := [.lit (.bool true)], args := [d] }
  | _ => none }
def fnExactHoldDriveRow : OpenClaim := { program := "yticncnohoddbgaa", sum := "5f59a5c75ea18ad7e946dfb7dcb52a7fea6f49fcd8992cfa3766a35a0edb6670", func := "loop.example/g01256/laws.FnExactHoldDrive", spec := "fnExactHoldDrive", unfollowed := true, recurses := true, apart := false }
def FnExactHoldDriveSaid : Prop := fnExactHoldDriveRow.holds Try.pinned (OpenSpec.ofChange fnExactHoldDriveSpec)

/-- ITS FALSE NEIGHBOUR: 'it returns false'. Refute it at one input. -/
def fnExactHoldDriveWrong : ChangeSpec := { name := "fnExactHoldDrive", fn := fun _ => fun
  | [d] => { results := [.lit (.bool false)], args := [d] }
  | _ => none }
def FnExactHoldDriveWrongFalsely : Prop := fnExactHoldDriveRow.holds Try.pinned (OpenSpec.ofChange fnExactHoldDriveWrong)

/-- 'laws.FnExactReleaseDrive': WHATEVER THE INPUT: true; the input reads as it did. -/
def fnExactReleaseDriveSpec : ChangeSpec := { name := "fnExactReleaseDrive", fn := fun _ => fun
  | [d] => { results := [.lit (.bool true)], args := [d] }
  | _ => none }
def fnExactReleaseDriveRow : OpenClaim := { program := "yticncnohoddbgaa", sum := "5f59a5c75ea18ad7e946dfb7dcb52a7fea6f49fcd8992cfa3766a35a0edb6670", func := "loop.example/g01256/laws.FnExactReleaseDrive", spec := "fnExactReleaseDrive", unfollowed := true, recurses := true, apart := false }
def FnExactReleaseDriveSaid : Prop := fnExactReleaseDriveRow.holds Try.pinned (OpenSpec.ofChange fnExactReleaseDriveSpec)

/-- ITS FALSE NEIGHBOUR: 'it returns false'. Refute it at one input. -/
def fnExactReleaseDriveWrong : ChangeSpec := { name := "fnExactReleaseDrive", fn := fun _ => fun
  | [d] => { results := [.lit (.bool false)], args := [d] }
  | _ => none }
def FnExactReleaseDriveWrongFalsely : Prop := fnExactReleaseDriveRow.holds Try.pinned (OpenSpec.ofChange fnExactReleaseDriveWrong)

/-- 'laws.FnExactYawStep': WHATEVER THE INPUT: true; the input reads as it did. -/
def fnExactYawStepSpec : ChangeSpec := { name := "fnExactYawStep", fn := fun _ => fun
  | [d1, d2, d3, d4] => { results := [.lit (.bool true)], args := [d1, d2, d3, d4] }
  | _ => none }
def fnExactYawStepRow : OpenClaim := { program := "yticncnohoddbgaa", sum := "5f59a5c75ea18ad7e946dfb7dcb52a7fea6f49fcd8992cfa3766a35a0edb6670", func := "loop.example/g01256/laws.FnExactYawStep", spec := "fnExactYawStep", inPlace := ["math.archFloor", "math.Float64bits", "math.Float64frombits", "math.archTrunc"], unfollowed := true, recurses := true, apart := false }
def FnExactYawStepSaid : Prop := fnExactYawStepRow.holds Try.pinned (OpenSpec.ofChange fnExactYawStepSpec)

/-- ITS FALSE NEIGHBOUR: 'it returns false'. Refute it at one input. -/
def fnExactYawStepWrong : ChangeSpec := { name := "fnExactYawStep", fn := fun _ => fun
  | [d1, d2, d3, d4] => { results := [.lit (.bool false)], args := [d1, d2, d3, d4] }
  | _ => none }
def FnExactYawStepWrongFalsely : Prop := fnExactYawStepRow.holds Try.pinned (OpenSpec.ofChange fnExactYawStepWrong)

/-- 'laws.FnExactTurnedBy': WHATEVER THE INPUT: true; the input reads as it did. -/
def fnExactTurnedBySpec : ChangeSpec := { name := "fnExactTurnedBy", fn := fun _ => fun
  | [d] => { results := [.lit (.bool true)], args := [d] }
  | _ => none }
def fnExactTurnedByRow : OpenClaim := { program := "yticncnohoddbgaa", sum := "5f59a5c75ea18ad7e946dfb7dcb52a7fea6f49fcd8992cfa3766a35a0edb6670", func := "loop.example/g01256/laws.FnExactTurnedBy", spec := "fnExactTurnedBy", inPlace := ["math.archFloor", "math.Float64bits", "math.Float64frombits", "math.archTrunc"], unfollowed := true, recurses := true, apart := false }
def FnExactTurnedBySaid : Prop := fnExactTurnedByRow.holds Try.pinned (OpenSpec.ofChange fnExactTurnedBySpec)

/-- ITS FALSE NEIGHBOUR: 'it returns false'. Refute it at one input. -/
def fnExactTurnedByWrong : ChangeSpec := { name := "fnExactTurnedBy", fn := fun _ => fun
  | [d] => { results := [.lit (.bool false)], args := [d] }
  | _ => none }
def FnExactTurnedByWrongFalsely : Prop := fnExactTurnedByRow.holds Try.pinned (OpenSpec.ofChange fnExactTurnedByWrong)

/-- 'laws.FnExactRunYaw': WHATEVER THE INPUT: true; the input reads as it did. -/
def fnExactRunYawSpec : ChangeSpec := { name := "fnExactRunYaw", fn := fun _ => fun
  | [d1, d2, d3, d4] => { results := [.lit (.bool true)], args := [d1, d2, d3, d4] }
  | _ => none }
def fnExactRunYawRow : OpenClaim := { program := "yticncnohoddbgaa", sum := "5f59a5c75ea18ad7e946dfb7dcb52a7fea6f49fcd8992cfa3766a35a0edb6670", func := "loop.example/g01256/laws.FnExactRunYaw", spec := "fnExactRunYaw", inPlace := ["math.archFloor", "math.Float64bits", "math.Float64frombits", "math.archTrunc"], unfollowed := true, recurses := true, apart := false }
def FnExactRunYawSaid : Prop := fnExactRunYawRow.holds Try.pinned (OpenSpec.ofChange fnExactRunYawSpec)

/-- ITS FALSE NEIGHBOUR: 'it returns false'. Refute it at one input. -/
def fnExactRunYawWrong : ChangeSpec := { name := "fnExactRunYaw", fn := fun _ => fun
  | [d1, d2, d3, d4] => { results := [.lit (.bool false)], args := [d1, d2, d3, d4] }
  | _ => none }
def FnExactRunYawWrongFalsely : Prop := fnExactRunYawRow.holds Try.pinned (OpenSpec.ofChange fnExactRunYawWrong)

/-- 'laws.FnExactSameFarm': WHATEVER THE INPUT: true; the input reads as it did. -/
def fnExactSameFarmSpec : ChangeSpec := { name := "fnExactSameFarm", fn := fun _ => fun
  | [d1, d2] => { results := [.lit (.bool true)], args := [d1, d2] }
  | _ => none }
def fnExactSameFarmRow : OpenClaim := { program := "yticncnohoddbgaa", sum := "5f59a5c75ea18ad7e946dfb7dcb52a7fea6f49fcd8992cfa3766a35a0edb6670", func := "loop.example/g01256/laws.FnExactSameFarm", spec := "fnExactSameFarm", inPlace := ["math.Float32bits", "math.Float64bits"], unfollowed := true, recurses := true, apart := false }
def FnExactSameFarmSaid : Prop := fnExactSameFarmRow.holds Try.pinned (OpenSpec.ofChange fnExactSameFarmSpec)

/-- ITS FALSE NEIGHBOUR: 'it returns false'. Refute it at one input. -/
def fnExactSameFarmWrong : ChangeSpec := { name := "fnExactSameFarm", fn := fun _ => fun
  | [d1, d2] => { results := [.lit (.bool false)], args := [d1, d2] }
  | _ => none }
def FnExactSameFarmWrongFalsely : Prop := fnExactSameFarmRow.holds Try.pinned (OpenSpec.ofChange fnExactSameFarmWrong)

/-- 'laws.FnExactValidFarm': WHATEVER THE INPUT: true; the input reads as it did. -/
def fnExactValidFarmSpec : ChangeSpec := { name := "fnExactValidFarm", fn := fun _ => fun
  | [d] => { results := [.lit (.bool true)], args := [d] }
  | _ => none }
def fnExactValidFarmRow : OpenClaim := { program := "yticncnohoddbgaa", sum := "5f59a5c75ea18ad7e946dfb7dcb52a7fea6f49fcd8992cfa3766a35a0edb6670", func := "loop.example/g01256/laws.FnExactValidFarm", spec := "fnExactValidFarm", unfollowed := true, recurses := true, apart := false }
def FnExactValidFarmSaid : Prop := fnExactValidFarmRow.holds Try.pinned (OpenSpec.ofChange fnExactValidFarmSpec)

/-- ITS FALSE NEIGHBOUR: 'it returns false'. Refute it at one input. -/
def fnExactValidFarmWrong : ChangeSpec := { name := "fnExactValidFarm", fn := fun _ => fun
  | [d] => { results := [.lit (.bool false)], args := [d] }
  | _ => none }
def FnExactValidFarmWrongFalsely : Prop := fnExactValidFarmRow.holds Try.pinned (OpenSpec.ofChange fnExactValidFarmWrong)

/- THE SECOND FORM. 'bulk': how many values and letters a reading holds, each counted each time it is reached (what is shared counts as often as it is met; a slice's spare places count too). A statement '..UptoSaid' is the law's where the arguments, and the package variables that the reading takes, are together of bulk at most 1048576: NARROWER than '..Said'. Prove '..Said' where nothing that the law and all that it calls make is longer than what came in: it says more and counts as full. Else prove '..UptoSaid'. A law counts once. -/
mutual
def uptoBulk {H : Type} : DataW H → Nat
  | .lit (.string bytes) => bytes.length + 1
  | .lit _ => 1
  | .nil => 1
  | .ptr d => uptoBulk d + 1
  | .slice elems spare => uptoBulkAll elems + uptoBulkAll spare + 1
  | .agg parts => uptoBulkAll parts + 1
  | .iface _ d => uptoBulk d + 1
  | .map entries => uptoBulkEntries entries + 1
  | .held _ => 1
def uptoBulkAll {H : Type} : List (DataW H) → Nat
  | [] => 0
  | d :: r => uptoBulk d + uptoBulkAll r
def uptoBulkEntries {H : Type} : List (Lit × DataW H) → Nat
  | [] => 0
  | x :: r => uptoBulkEntry x + uptoBulkEntries r
def uptoBulkEntry {H : Type} : Lit × DataW H → Nat
  | (.string bytes, d) => bytes.length + uptoBulk d + 1
  | (_, d) => uptoBulk d + 1
 end
def uptoSmall : (H : Type) → List (DataW H) → Bool := fun _ ds => decide (uptoBulkAll ds ≤ 1048576)
def OpenSpec.upto (s : _root_.Go.ChangeSpec) : _root_.Go.OpenSpec := { _root_.Go.OpenSpec.ofChange s with cond := some uptoSmall }

/-- 'laws.FnExactNewDrive', WHERE WHAT IT READS IS OF BULK AT MOST 1048576: true; the input reads as it did. -/
def fnExactNewDriveUptoRow : OpenClaim := { program := "yticncnohoddbgaa", sum := "5f59a5c75ea18ad7e946dfb7dcb52a7fea6f49fcd8992cfa3766a35a0edb6670", func := "loop.example/g01256/laws.FnExactNewDrive", spec := "fnExactNewDrive", unfollowed := true, recurses := true, apart := false, narrowed := true }
def FnExactNewDriveUptoSaid : Prop := fnExactNewDriveUptoRow.holds Try.pinned (OpenSpec.upto fnExactNewDriveSpec)

/-- 'laws.FnExactNetTorque', WHERE WHAT IT READS IS OF BULK AT MOST 1048576: true; the input reads as it did. -/
def fnExactNetTorqueUptoRow : OpenClaim := { program := "yticncnohoddbgaa", sum := "5f59a5c75ea18ad7e946dfb7dcb52a7fea6f49fcd8992cfa3766a35a0edb6670", func := "loop.example/g01256/laws.FnExactNetTorque", spec := "fnExactNetTorque", unfollowed := true, recurses := true, apart := false, narrowed := true }
def FnExactNetTorqueUptoSaid : Prop := fnExactNetTorqueUptoRow.holds Try.pinned (OpenSpec.upto fnExactNetTorqueSpec)

/-- 'laws.FnExactNextState', WHERE WHAT IT READS IS OF BULK AT MOST 1048576: true; the input reads as it did. -/
def fnExactNextStateUptoRow : OpenClaim := { program := "yticncnohoddbgaa", sum := "5f59a5c75ea18ad7e946dfb7dcb52a7fea6f49fcd8992cfa3766a35a0edb6670", func := "loop.example/g01256/laws.FnExactNextState", spec := "fnExactNextState", unfollowed := true, recurses := true, apart := false, narrowed := true }
def FnExactNextStateUptoSaid : Prop := fnExactNextStateUptoRow.holds Try.pinned (OpenSpec.upto fnExactNextStateSpec)

/-- 'laws.FnExactHoldDrive', WHERE WHAT IT READS IS OF BULK AT MOST 1048576: true; the input reads as it did. -/
def fnExactHoldDriveUptoRow : OpenClaim := { program := "yticncnohoddbgaa", sum := "5f59a5c75ea18ad7e946dfb7dcb52a7fea6f49fcd8992cfa3766a35a0edb6670", func := "loop.example/g01256/laws.FnExactHoldDrive", spec := "fnExactHoldDrive", unfollowed := true, recurses := true, apart := false, narrowed := true }
def FnExactHoldDriveUptoSaid : Prop := fnExactHoldDriveUptoRow.holds Try.pinned (OpenSpec.upto fnExactHoldDriveSpec)

/-- 'laws.FnExactReleaseDrive', WHERE WHAT IT READS IS OF BULK AT MOST 1048576: true; the input reads as it did. -/
def fnExactReleaseDriveUptoRow : OpenClaim := { program := "yticncnohoddbgaa", sum := "5f59a5c75ea18ad7e946dfb7dcb52a7fea6f49fcd8992cfa3766a35a0edb6670", func := "loop.example/g01256/laws.FnExactReleaseDrive", spec := "fnExactReleaseDrive", unfollowed := true, recurses := true, apart := false, narrowed := true }
def FnExactReleaseDriveUptoSaid : Prop := fnExactReleaseDriveUptoRow.holds Try.pinned (OpenSpec.upto fnExactReleaseDriveSpec)

/-- 'laws.FnExactYawStep', WHERE WHAT IT READS IS OF BULK AT MOST 1048576: true; the input reads as it did. -/
def fnExactYawStepUptoRow : OpenClaim := { program := "yticncnohoddbgaa", sum := "5f59a5c75ea18ad7e946dfb7dcb52a7fea6f49fcd8992cfa3766a35a0edb6670", func := "loop.example/g01256/laws.FnExactYawStep", spec := "fnExactYawStep", inPlace := ["math.archFloor", "math.Float64bits", "math.Float64frombits", "math.archTrunc"], unfollowed := true, recurses := true, apart := false, narrowed := true }
def FnExactYawStepUptoSaid : Prop := fnExactYawStepUptoRow.holds Try.pinned (OpenSpec.upto fnExactYawStepSpec)

/-- 'laws.FnExactTurnedBy', WHERE WHAT IT READS IS OF BULK AT MOST 1048576: true; the input reads as it did. -/
def fnExactTurnedByUptoRow : OpenClaim := { program := "yticncnohoddbgaa", sum := "5f59a5c75ea18ad7e946dfb7dcb52a7fea6f49fcd8992cfa3766a35a0edb6670", func := "loop.example/g01256/laws.FnExactTurnedBy", spec := "fnExactTurnedBy", inPlace := ["math.archFloor", "math.Float64bits", "math.Float64frombits", "math.archTrunc"], unfollowed := true, recurses := true, apart := false, narrowed := true }
def FnExactTurnedByUptoSaid : Prop := fnExactTurnedByUptoRow.holds Try.pinned (OpenSpec.upto fnExactTurnedBySpec)

/-- 'laws.FnExactRunYaw', WHERE WHAT IT READS IS OF BULK AT MOST 1048576: true; the input reads as it did. -/
def fnExactRunYawUptoRow : OpenClaim := { program := "yticncnohoddbgaa", sum := "5f59a5c75ea18ad7e946dfb7dcb52a7fea6f49fcd8992cfa3766a35a0edb6670", func := "loop.example/g01256/laws.FnExactRunYaw", spec := "fnExactRunYaw", inPlace := ["math.archFloor", "math.Float64bits", "math.Float64frombits", "math.archTrunc"], unfollowed := true, recurses := true, apart := false, narrowed := true }
def FnExactRunYawUptoSaid : Prop := fnExactRunYawUptoRow.holds Try.pinned (OpenSpec.upto fnExactRunYawSpec)

/-- 'laws.FnExactSameFarm', WHERE WHAT IT READS IS OF BULK AT MOST 1048576: true; the input reads as it did. -/
def fnExactSameFarmUptoRow : OpenClaim := { program := "yticncnohoddbgaa", sum := "5f59a5c75ea18ad7e946dfb7dcb52a7fea6f49fcd8992cfa3766a35a0edb6670", func := "loop.example/g01256/laws.FnExactSameFarm", spec := "fnExactSameFarm", inPlace := ["math.Float32bits", "math.Float64bits"], unfollowed := true, recurses := true, apart := false, narrowed := true }
def FnExactSameFarmUptoSaid : Prop := fnExactSameFarmUptoRow.holds Try.pinned (OpenSpec.upto fnExactSameFarmSpec)

/-- 'laws.FnExactValidFarm', WHERE WHAT IT READS IS OF BULK AT MOST 1048576: true; the input reads as it did. -/
def fnExactValidFarmUptoRow : OpenClaim := { program := "yticncnohoddbgaa", sum := "5f59a5c75ea18ad7e946dfb7dcb52a7fea6f49fcd8992cfa3766a35a0edb6670", func := "loop.example/g01256/laws.FnExactValidFarm", spec := "fnExactValidFarm", unfollowed := true, recurses := true, apart := false, narrowed := true }
def FnExactValidFarmUptoSaid : Prop := fnExactValidFarmUptoRow.holds Try.pinned (OpenSpec.upto fnExactValidFarmSpec)

end Rows
end Go.Proofs.Yticncnohoddbgaa
