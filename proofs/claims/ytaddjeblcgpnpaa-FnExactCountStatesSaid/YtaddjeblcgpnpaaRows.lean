/-
  No cell of these rows narrows 'for every input' (looked for: loops, veiled, ifaces, maps, wideKeys, modest, calm, conditions, laid).
  DERIVED. THE GIVEN ROWS OF THIS SEAT. 12 by the template 'for every input the law returns true; each argument reads behind the call as it read before'; 0 by the template 'total and deterministic' (their statements: YtaddjeblcgpnpaaTotals.lean).
  GIVEN WITH THE SEED: the statements are not yours to turn. If you find one false, say at which input.
  Laid BY PROGRAM, IN A SANDBOX (cutbox-rows.mjs): the forced cells as the released guide's own fill.sh prints them over the translation 6f1f05a1c4ef3b2c… (all of the seat's roots in one cut). By AI agents, Wed Nov 11 2026. No macro, syntax, notation, axiom, sorry.
-/
import Derived.Test.YtaddjeblcgpnpaaChecked
import GoSem.Claim
import GoSem.ClaimJoined
import GoSem.ClaimMapViews
import Derived.JoinedTies
import Derived.KernelRfl
namespace Go.Proofs.Ytaddjeblcgpnpaa
/- THE CELL 'sum', in the pinned program and in every row, IS THE sha256 OF THE DUMP (.gsa) THAT YtaddjeblcgpnpaaProg.lean LOADS. Nothing in Lean hashes anything: it is a label: what it is worth is what the hold of that sum in a sandbox is worth. -/
noncomputable def Try.pinned : Pinned := { name := "ytaddjeblcgpnpaa", sum := "6f1f05a1c4ef3b2c3adcccb2790a0f58f44b9908baef43a574d6e60f2243316d", checked := Try.checked }
namespace Rows
def none {H : Type} : Left H := { results := [], args := [] }

/-- 'laws.FnExactValidBoat': WHATEVER THE INPUT: true; the input reads as it did. -/
def fnExactValidBoatSpec : ChangeSpec := { name := "fnExactValidBoat", fn := fun _ => fun
  | [d] => { results := [.lit (.bool true)], args := [d] }
  | _ => none }
def fnExactValidBoatRow : OpenClaim := { program := "ytaddjeblcgpnpaa", sum := "6f1f05a1c4ef3b2c3adcccb2790a0f58f44b9908baef43a574d6e60f2243316d", func := "loop.example/g01256/laws.FnExactValidBoat", spec := "fnExactValidBoat", unfollowed := true, recurses := true, apart := false }
def FnExactValidBoatSaid : Prop := fnExactValidBoatRow.holds Try.pinned (OpenSpec.ofChange fnExactValidBoatSpec)

/-- ITS FALSE NEIGHBOUR: 'it returns false'. Refute it at one input. -/
def fnExactValidBoatWrong : ChangeSpec := { name := "fnExactValidBoat", fn := fun _ => fun
  | [d] => { results := [.lit (.bool false)], args := [d] }
  | _ => none }
def FnExactValidBoatWrongFalsely : Prop := fnExactValidBoatRow.holds Try.pinned (OpenSpec.ofChange fnExactValidBoatWrong)

/-- 'laws.FnExactValidPlant': WHATEVER THE INPUT: true; the input reads as it did. -/
def fnExactValidPlantSpec : ChangeSpec := { name := "fnExactValidPlant", fn := fun _ => fun
  | [d] => { results := [.lit (.bool true)], args := [d] }
  | _ => none }
def fnExactValidPlantRow : OpenClaim := { program := "ytaddjeblcgpnpaa", sum := "6f1f05a1c4ef3b2c3adcccb2790a0f58f44b9908baef43a574d6e60f2243316d", func := "loop.example/g01256/laws.FnExactValidPlant", spec := "fnExactValidPlant", unfollowed := true, recurses := true, apart := false }
def FnExactValidPlantSaid : Prop := fnExactValidPlantRow.holds Try.pinned (OpenSpec.ofChange fnExactValidPlantSpec)

/-- ITS FALSE NEIGHBOUR: 'it returns false'. Refute it at one input. -/
def fnExactValidPlantWrong : ChangeSpec := { name := "fnExactValidPlant", fn := fun _ => fun
  | [d] => { results := [.lit (.bool false)], args := [d] }
  | _ => none }
def FnExactValidPlantWrongFalsely : Prop := fnExactValidPlantRow.holds Try.pinned (OpenSpec.ofChange fnExactValidPlantWrong)

/-- 'laws.FnExactSamePlant': WHATEVER THE INPUT: true; the input reads as it did. -/
def fnExactSamePlantSpec : ChangeSpec := { name := "fnExactSamePlant", fn := fun _ => fun
  | [d1, d2] => { results := [.lit (.bool true)], args := [d1, d2] }
  | _ => none }
def fnExactSamePlantRow : OpenClaim := { program := "ytaddjeblcgpnpaa", sum := "6f1f05a1c4ef3b2c3adcccb2790a0f58f44b9908baef43a574d6e60f2243316d", func := "loop.example/g01256/laws.FnExactSamePlant", spec := "fnExactSamePlant", inPlace := ["math.Float32bits", "math.Float64bits"], unfollowed := true, recurses := true, apart := false }
def FnExactSamePlantSaid : Prop := fnExactSamePlantRow.holds Try.pinned (OpenSpec.ofChange fnExactSamePlantSpec)

/-- ITS FALSE NEIGHBOUR: 'it returns false'. Refute it at one input. -/
def fnExactSamePlantWrong : ChangeSpec := { name := "fnExactSamePlant", fn := fun _ => fun
  | [d1, d2] => { results := [.lit (.bool false)], args := [d1, d2] }
  | _ => none }
def FnExactSamePlantWrongFalsely : Prop := fnExactSamePlantRow.holds Try.pinned (OpenSpec.ofChange fnExactSamePlantWrong)

/-- 'laws.FnExactValidDrive': WHATEVER THE INPUT: true; the input reads as it did. -/
def fnExactValidDriveSpec : ChangeSpec := { name := "fnExactValidDrive", fn := fun _ => fun
  | [d] => { results := [.lit (.bool true)], args := [d] }
  | _ => none }
def fnExactValidDriveRow : OpenClaim := { program := "ytaddjeblcgpnpaa", sum := "6f1f05a1c4ef3b2c3adcccb2790a0f58f44b9908baef43a574d6e60f2243316d", func := "loop.example/g01256/laws.FnExactValidDrive", spec := "fnExactValidDrive", unfollowed := true, recurses := true, apart := false }
def FnExactValidDriveSaid : Prop := fnExactValidDriveRow.holds Try.pinned (OpenSpec.ofChange fnExactValidDriveSpec)

/-- ITS FALSE NEIGHBOUR: 'it returns false'. Refute it at one input. -/
def fnExactValidDriveWrong : ChangeSpec := { name := "fnExactValidDrive", fn := fun _ => fun
  | [d] => { results := [.lit (.bool false)], args := [d] }
  | _ => none }
def FnExactValidDriveWrongFalsely : Prop := fnExactValidDriveRow.holds Try.pinned (OpenSpec.ofChange fnExactValidDriveWrong)

/-- 'laws.FnExactChangesIn': WHATEVER THE INPUT: true; the input reads as it did. -/
def fnExactChangesInSpec : ChangeSpec := { name := "fnExactChangesIn", fn := fun _ => fun
  | [d] => { results := [.lit (.bool true)], args := [d] }
  | _ => none }
def fnExactChangesInRow : OpenClaim := { program := "ytaddjeblcgpnpaa", sum := "6f1f05a1c4ef3b2c3adcccb2790a0f58f44b9908baef43a574d6e60f2243316d", func := "loop.example/g01256/laws.FnExactChangesIn", spec := "fnExactChangesIn", apart := false }
def FnExactChangesInSaid : Prop := fnExactChangesInRow.holds Try.pinned (OpenSpec.ofChange fnExactChangesInSpec)

/-- ITS FALSE NEIGHBOUR: 'it returns false'. Refute it at one input. -/
def fnExactChangesInWrong : ChangeSpec := { name := "fnExactChangesIn", fn := fun _ => fun
  | [d] => { results := [.lit (.bool false)], args := [d] }
  | _ => none }
def FnExactChangesInWrongFalsely : Prop := fnExactChangesInRow.holds Try.pinned (OpenSpec.ofChange fnExactChangesInWrong)

/-- 'laws.FnExactSameDrive': WHATEVER THE INPUT: true; the input reads as it did. -/
def fnExactSameDriveSpec : ChangeSpec := { name := "fnExactSameDrive", fn := fun _ => fun
  | [d1, d2] => { results := [.lit (.bool true)], args := [d1, d2] }
  | _ => none }
def fnExactSameDriveRow : OpenClaim := { program := "ytaddjeblcgpnpaa", sum := "6f1f05a1c4ef3b2c3adcccb2790a0f58f44b9908baef43a574d6e60f2243316d", func := "loop.example/g01256/laws.FnExactSameDrive", spec := "fnExactSameDrive", inPlace := ["math.Float32bits", "math.Float64bits"], unfollowed := true, recurses := true, apart := false }
def FnExactSameDriveSaid : Prop := fnExactSameDriveRow.holds Try.pinned (OpenSpec.ofChange fnExactSameDriveSpec)

/-- ITS FALSE NEIGHBOUR: 'it returns false'. Refute it at one input. -/
def fnExactSameDriveWrong : ChangeSpec := { name := "fnExactSameDrive", fn := fun _ => fun
  | [d1, d2] => { results := [.lit (.bool false)], args := [d1, d2] }
  | _ => none }
def FnExactSameDriveWrongFalsely : Prop := fnExactSameDriveRow.holds Try.pinned (OpenSpec.ofChange fnExactSameDriveWrong)

/-- 'laws.FnExactLongestIn': WHATEVER THE INPUT: true; the input reads as it did. -/
def fnExactLongestInSpec : ChangeSpec := { name := "fnExactLongestIn", fn := fun _ => fun
  | [d1, d2] => { results := [.lit (.bool true)], args := [d1, d2] }
  | _ => none }
def fnExactLongestInRow : OpenClaim := { program := "ytaddjeblcgpnpaa", sum := "6f1f05a1c4ef3b2c3adcccb2790a0f58f44b9908baef43a574d6e60f2243316d", func := "loop.example/g01256/laws.FnExactLongestIn", spec := "fnExactLongestIn", apart := false }
def FnExactLongestInSaid : Prop := fnExactLongestInRow.holds Try.pinned (OpenSpec.ofChange fnExactLongestInSpec)

/-- ITS FALSE NEIGHBOUR: 'it returns false'. Refute it at one input. -/
def fnExactLongestInWrong : ChangeSpec := { name := "fnExactLongestIn", fn := fun _ => fun
  | [d1, d2] => { results := [.lit (.bool false)], args := [d1, d2] }
  | _ => none }
def FnExactLongestInWrongFalsely : Prop := fnExactLongestInRow.holds Try.pinned (OpenSpec.ofChange fnExactLongestInWrong)

/-- 'laws.FnExactCountStates': WHATEVER THE INPUT: true; the input reads as it did. -/
def fnExactCountStatesSpec : ChangeSpec := { name := "fnExactCountStates", fn := fun _ => fun
  | [d] => { results := [.lit (.bool true)], args := [d] }
  | _ => none }
def fnExactCountStatesRow : OpenClaim := { program := "ytaddjeblcgpnpaa", sum := "6f1f05a1c4ef3b2c3adcccb2790a0f58f44b9908baef43a574d6e60f2243316d", func := "loop.example/g01256/laws.FnExactCountStates", spec := "fnExactCountStates", apart := false }
def FnExactCountStatesSaid : Prop := fnExactCountStatesRow.holds Try.pinned (OpenSpec.ofChange fnExactCountStatesSpec)

/-- ITS FALSE NEIGHBOUR: 'it returns false'. Refute it at one input. -/
def fnExactCountStatesWrong : ChangeSpec := { name := "fnExactCountStates", fn := fun _ => fun
  | [d] => { results := [.lit (.bool false)], args := [d] }
  | _ => none }
def FnExactCountStatesWrongFalsely : Prop := fnExactCountStatesRow.holds Try.pinned (OpenSpec.ofChange fnExactCountStatesWrong)

/-- 'laws.FnExactShareOfRated': WHATEVER THE INPUT: true; the input reads as it did. -/
def fnExactShareOfRatedSpec : ChangeSpec := { name := "fnExactShareOfRated", fn := fun _ => fun
  | [d1, d2] => { results := [.lit (.bool true)], args := [d1, d2] }
  | _ => none }
def fnExactShareOfRatedRow : OpenClaim := { program := "ytaddjeblcgpnpaa", sum := "6f1f05a1c4ef3b2c3adcccb2790a0f58f44b9908baef43a574d6e60f2243316d", func := "loop.example/g01256/laws.FnExactShareOfRated", spec := "fnExactShareOfRated", unfollowed := true, recurses := true, apart := false }
def FnExactShareOfRatedSaid : Prop := fnExactShareOfRatedRow.holds Try.pinned (OpenSpec.ofChange fnExactShareOfRatedSpec)

/-- ITS FALSE NEIGHBOUR: 'it returns false'. Refute it at one input. -/
def fnExactShareOfRatedWrong : ChangeSpec := { name := "fnExactShareOfRated", fn := fun _ => fun
  | [d1, d2] => { results := [.lit (.bool false)], args := [d1, d2] }
  | _ => none }
def FnExactShareOfRatedWrongFalsely : Prop := fnExactShareOfRatedRow.holds Try.pinned (OpenSpec.ofChange fnExactShareOfRatedWrong)

/-- 'laws.FnExactNextPitch': WHATEVER THE INPUT: true; the input reads as it did. -/
def fnExactNextPitchSpec : ChangeSpec := { name := "fnExactNextPitch", fn := fun _ => fun
  | [d1, d2] => { results := [.lit (.bool true)], args := [d1, d2] }
  | _ => none }
def fnExactNextPitchRow : OpenClaim := { program := "ytaddjeblcgpnpaa", sum := "6f1f05a1c4ef3b2c3adcccb2790a0f58f44b9908baef43a574d6e60f2243316d", func := "loop.example/g01256/laws.FnExactNextPitch", spec := "fnExactNextPitch", unfollowed := true, recurses := true, apart := false }
def FnExactNextPitchSaid : Prop := fnExactNextPitchRow.holds Try.pinned (OpenSpec.ofChange fnExactNextPitchSpec)

/-- ITS FALSE NEIGHBOUR: 'it returns false'. Refute it at one input. -/
def fnExactNextPitchWrong : ChangeSpec := { name := "fnExactNextPitch", fn := fun _ => fun
  | [d1, d2] => { results := [.lit (.bool false)], args := [d1, d2] }
  | _ => none }
def FnExactNextPitchWrongFalsely : Prop := fnExactNextPitchRow.holds Try.pinned (OpenSpec.ofChange fnExactNextPitchWrong)

/-- 'laws.FnExactDrivePower': WHATEVER THE INPUT: true; the input reads as it did. -/
def fnExactDrivePowerSpec : ChangeSpec := { name := "fnExactDrivePower", fn := fun _ => fun
  | [d] => { results := [.lit (.bool true)], args := [d] }
  | _ => none }
def fnExactDrivePowerRow : OpenClaim := { program := "ytaddjeblcgpnpaa", sum := "6f1f05a1c4ef3b2c3adcccb2790a0f58f44b9908baef43a574d6e60f2243316d", func := "loop.example/g01256/laws.FnExactDrivePower", spec := "fnExactDrivePower", unfollowed := true, recurses := true, apart := false }
def FnExactDrivePowerSaid : Prop := fnExactDrivePowerRow.holds Try.pinned (OpenSpec.ofChange fnExactDrivePowerSpec)

/-- ITS FALSE NEIGHBOUR: 'it returns false'. Refute it at one input. -/
def fnExactDrivePowerWrong : ChangeSpec := { name := "fnExactDrivePower", fn := fun _ => fun
  | [d] => { results := [.lit (.bool false)], args := [d] }
  | _ => none }
def FnExactDrivePowerWrongFalsely : Prop := fnExactDrivePowerRow.holds Try.pinned (OpenSpec.ofChange fnExactDrivePowerWrong)

/-- 'laws.FnExactGridTorque': WHATEVER THE INPUT: true; the input reads as it did. -/
def fnExactGridTorqueSpec : ChangeSpec := { name := "fnExactGridTorque", fn := fun _ => fun
  | [d] => { results := [.lit (.bool true)], args := [d] }
  | _ => none }
def fnExactGridTorqueRow : OpenClaim := { program := "ytaddjeblcgpnpaa", sum := "6f1f05a1c4ef3b2c3adcccb2790a0f58f44b9908baef43a574d6e60f2243316d", func := "loop.example/g01256/laws.FnExactGridTorque", spec := "fnExactGridTorque", unfollowed := true, recurses := true, apart := false }
def FnExactGridTorqueSaid : Prop := fnExactGridTorqueRow.holds Try.pinned (OpenSpec.ofChange fnExactGridTorqueSpec)

/-- ITS FALSE NEIGHBOUR: 'it returns false'. Refute it at one input. -/
def fnExactGridTorqueWrong : ChangeSpec := { name := "fnExactGridTorque", fn := fun _ => fun
  | [d] => { results := [.lit (.bool false)], args := [d] }
  | _ => none }
def FnExactGridTorqueWrongFalsely : Prop := fnExactGridTorqueRow.holds Try.pinned (OpenSpec.ofChange fnExactGridTorqueWrong)

/- THE SECOND FORM. 'bulk': how many values and letters a reading holds, each counted each time it is reached (what is shared counts as often as it is met; a slice's spare places count too). A statement '..UptoSaid' is the law's where the arguments, and the package variables that the reading takes, are together of bulk at most 1048576: NARROWER than '..Said'. Prove '..Said' where nothing that the law and all that it calls make is longer than what came in: it says more and counts as full. Else prove '..UptoSaid'. A law counts once. -/
mutual
def uptoBulk {H : Type} : DataW H → Nat
  | .lit (.string bytes) => bytes.length + 1
  | .lit _ => 1
  | .nil => 1
  | .ptr d => uptoBulk d + 1
  | .slice elems spare => uptoBulkAll elems + uptoBulkAll spare + 1
  | .agg parts => uptoBulkAll parts + 1
  | .iface _ d => uptoBulk d + 1
  | .map entries => uptoBulkEntries entries + 1
  | .held _ => 1
def uptoBulkAll {H : Type} : List (DataW H) → Nat
  | [] => 0
  | d :: r => uptoBulk d + uptoBulkAll r
def uptoBulkEntries {H : Type} : List (Lit × DataW H) → Nat
  | [] => 0
  | x :: r => uptoBulkEntry x + uptoBulkEntries r
def uptoBulkEntry {H : Type} : Lit × DataW H → Nat
  | (.string bytes, d) => bytes.length + uptoBulk d + 1
  | (_, d) => uptoBulk d + 1
 end
def uptoSmall : (H : Type) → List (DataW H) → Bool := fun _ ds => decide (uptoBulkAll ds ≤ 1048576)
def OpenSpec.upto (s : _root_.Go.ChangeSpec) : _root_.Go.OpenSpec := { _root_.Go.OpenSpec.ofChange s with cond := some uptoSmall }

/-- 'laws.FnExactValidBoat', WHERE WHAT IT READS IS OF BULK AT MOST 1048576: true; the input reads as it did. -/
def fnExactValidBoatUptoRow : OpenClaim := { program := "ytaddjeblcgpnpaa", sum := "6f1f05a1c4ef3b2c3adcccb2790a0f58f44b9908baef43a574d6e60f2243316d", func := "loop.example/g01256/laws.FnExactValidBoat", spec := "fnExactValidBoat", unfollowed := true, recurses := true, apart := false, narrowed := true }
def FnExactValidBoatUptoSaid : Prop := fnExactValidBoatUptoRow.holds Try.pinned (OpenSpec.upto fnExactValidBoatSpec)

/-- 'laws.FnExactValidPlant', WHERE WHAT IT READS IS OF BULK AT MOST 1048576: true; the input reads as it did. -/
def fnExactValidPlantUptoRow : OpenClaim := { program := "ytaddjeblcgpnpaa", sum := "6f1f05a1c4ef3b2c3adcccb2790a0f58f44b9908baef43a574d6e60f2243316d", func := "loop.example/g01256/laws.FnExactValidPlant", spec := "fnExactValidPlant", unfollowed := true, recurses := true, apart := false, narrowed := true }
def FnExactValidPlantUptoSaid : Prop := fnExactValidPlantUptoRow.holds Try.pinned (OpenSpec.upto fnExactValidPlantSpec)

/-- 'laws.FnExactSamePlant', WHERE WHAT IT READS IS OF BULK AT MOST 1048576: true; the input reads as it did. -/
def fnExactSamePlantUptoRow : OpenClaim := { program := "ytaddjeblcgpnpaa", sum := "6f1f05a1c4ef3b2c3adcccb2790a0f58f44b9908baef43a574d6e60f2243316d", func := "loop.example/g01256/laws.FnExactSamePlant", spec := "fnExactSamePlant", inPlace := ["math.Float32bits", "math.Float64bits"], unfollowed := true, recurses := true, apart := false, narrowed := true }
def FnExactSamePlantUptoSaid : Prop := fnExactSamePlantUptoRow.holds Try.pinned (OpenSpec.upto fnExactSamePlantSpec)

/-- 'laws.FnExactValidDrive', WHERE WHAT IT READS IS OF BULK AT MOST 1048576: true; the input reads as it did. -/
def fnExactValidDriveUptoRow : OpenClaim := { program := "ytaddjeblcgpnpaa", sum := "6f1f05a1c4ef3b2c3adcccb2790a0f58f44b9908baef43a574d6e60f2243316d", func := "loop.example/g01256/laws.FnExactValidDrive", spec := "fnExactValidDrive", unfollowed := true, recurses := true, apart := false, narrowed := true }
def FnExactValidDriveUptoSaid : Prop := fnExactValidDriveUptoRow.holds Try.pinned (OpenSpec.upto fnExactValidDriveSpec)

/-- 'laws.FnExactChangesIn', WHERE WHAT IT READS IS OF BULK AT MOST 1048576: true; the input reads as it did. -/
def fnExactChangesInUptoRow : OpenClaim := { program := "ytaddjeblcgpnpaa", sum := "6f1f05a1c4ef3b2c3adcccb2790a0f58f44b9908baef43a574d6e60f2243316d", func := "loop.example/g01256/laws.FnExactChangesIn", spec := "fnExactChangesIn", apart := false, narrowed := true }
def FnExactChangesInUptoSaid : Prop := fnExactChangesInUptoRow.holds Try.pinned (OpenSpec.upto fnExactChangesInSpec)

/-- 'laws.FnExactSameDrive', WHERE WHAT IT READS IS OF BULK AT MOST 1048576: true; the input reads as it did. -/
def fnExactSameDriveUptoRow : OpenClaim := { program := "ytaddjeblcgpnpaa", sum := "6f1f05a1c4ef3b2c3adcccb2790a0f58f44b9908baef43a574d6e60f2243316d", func := "loop.example/g01256/laws.FnExactSameDrive", spec := "fnExactSameDrive", inPlace := ["math.Float32bits", "math.Float64bits"], unfollowed := true, recurses := true, apart := false, narrowed := true }
def FnExactSameDriveUptoSaid : Prop := fnExactSameDriveUptoRow.holds Try.pinned (OpenSpec.upto fnExactSameDriveSpec)

/-- 'laws.FnExactLongestIn', WHERE WHAT IT READS IS OF BULK AT MOST 1048576: true; the input reads as it did. -/
def fnExactLongestInUptoRow : OpenClaim := { program := "ytaddjeblcgpnpaa", sum := "6f1f05a1c4ef3b2c3adcccb2790a0f58f44b9908baef43a574d6e60f2243316d", func := "loop.example/g01256/laws.FnExactLongestIn", spec := "fnExactLongestIn", apart := false, narrowed := true }
def FnExactLongestInUptoSaid : Prop := fnExactLongestInUptoRow.holds Try.pinned (OpenSpec.upto fnExactLongestInSpec)

/-- 'laws.FnExactCountStates', WHERE WHAT IT READS IS OF BULK AT MOST 1048576: true; the input reads as it did. -/
def fnExactCountStatesUptoRow : OpenClaim := { program := "ytaddjeblcgpnpaa", sum := "6f1f05a1c4ef3b2c3adcccb2790a0f58f44b9908baef43a574d6e60f2243316d", func := "loop.example/g01256/laws.FnExactCountStates", spec := "fnExactCountStates", apart := false, narrowed := true }
def FnExactCountStatesUptoSaid : Prop := fnExactCountStatesUptoRow.holds Try.pinned (OpenSpec.upto fnExactCountStatesSpec)

/-- 'laws.FnExactShareOfRated', WHERE WHAT IT READS IS OF BULK AT MOST 1048576: true; the input reads as it did. -/
def fnExactShareOfRatedUptoRow : OpenClaim := { program := "ytaddjeblcgpnpaa", sum := "6f1f05a1c4ef3b2c3adcccb2790a0f58f44b9908baef43a574d6e60f2243316d", func := "loop.example/g01256/laws.FnExactShareOfRated", spec := "fnExactShareOfRated", unfollowed := true, recurses := true, apart := false, narrowed := true }
def FnExactShareOfRatedUptoSaid : Prop := fnExactShareOfRatedUptoRow.holds Try.pinned (OpenSpec.upto fnExactShareOfRatedSpec)

/-- 'laws.FnExactNextPitch', WHERE WHAT IT READS IS OF BULK AT MOST 1048576: true; the input reads as it did. -/
def fnExactNextPitchUptoRow : OpenClaim := { program := "ytaddjeblcgpnpaa", sum := "6f1f05a1c4ef3b2c3adcccb2790a0f58f44b9908baef43a574d6e60f2243316d", func := "loop.example/g01256/laws.FnExactNextPitch", spec := "fnExactNextPitch", unfollowed := true, recurses := true, apart := false, narrowed := true }
def FnExactNextPitchUptoSaid : Prop := fnExactNextPitchUptoRow.holds Try.pinned (OpenSpec.upto fnExactNextPitchSpec)

/-- 'laws.FnExactDrivePower', WHERE WHAT IT READS IS OF BULK AT MOST 1048576: true; the input reads as it did. -/
def fnExactDrivePowerUptoRow : OpenClaim := { program := "ytaddjeblcgpnpaa", sum := "6f1f05a1c4ef3b2c3adcccb2790a0f58f44b9908baef43a574d6e60f2243316d", func := "loop.example/g01256/laws.FnExactDrivePower", spec := "fnExactDrivePower", unfollowed := true, recurses := true, apart := false, narrowed := true }
def FnExactDrivePowerUptoSaid : Prop := fnExactDrivePowerUptoRow.holds Try.pinned (OpenSpec.upto fnExactDrivePowerSpec)

/-- 'laws.FnExactGridTorque', WHERE WHAT IT READS IS OF BULK AT MOST 1048576: true; the input reads as it did. -/
def fnExactGridTorqueUptoRow : OpenClaim := { program := "ytaddjeblcgpnpaa", sum := "6f1f05a1c4ef3b2c3adcccb2790a0f58f44b9908baef43a574d6e60f2243316d", func := "loop.example/g01256/laws.FnExactGridTorque", spec := "fnExactGridTorque", unfollowed := true, recurses := true, apart := false, narrowed := true }
def FnExactGridTorqueUptoSaid : Prop := fnExactGridTorqueUptoRow.holds Try.pinned (OpenSpec.upto fnExactGridTorqueSpec)

end Rows
end Go.Proofs.Ytaddjeblcgpnpaa
